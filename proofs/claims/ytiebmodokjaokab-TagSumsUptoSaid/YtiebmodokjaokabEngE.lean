/- The engine, fifth part: one operation behind the other. -/
import Derived.Test.YtiebmodokjaokabEngD
import Derived.Laws.MakeOwn
set_option linter.unusedVariables false
set_option linter.unusedSimpArgs false
namespace Go.Sl
open Go

section steps
variable {P : Program} {ops : Array Oper} {dst : Option Nat} {ty : TypeId} {pos : String} {after : Array Edge} {rest : List Oper} {ρ : Env} {w w0 : World} {K : Env → World → Prop}

theorem d_nil (h : K ρ w) : denOps P ops [] ρ w K := h
/-- An operation without a guard is carried out. -/
theorem d_op {op : Op} (h : After P dst ρ (fun ρ' w' => denOps P ops rest ρ' w' K) ((execOp (ev ρ) ⟨dst, op, ty, pos, after, none⟩).run P w)) : denOps P ops (⟨dst, op, ty, pos, after, none⟩ :: rest) ρ w K := by
  show denI P ops _ ρ w _
  unfold denI
  rw [if_pos (by rfl)]
  exact h
theorem d_pv {op : Op} {v : Value} (h : PV P op ρ v) (k : denOps P ops rest (put ρ dst v) w K) : denOps P ops (⟨dst, op, ty, pos, after, none⟩ :: rest) ρ w K :=
  d_op (by rw [h _ w rfl]; exact k)
/-- Guards. -/
theorem d_gy {op : Op} {j : Nat} {b : Bool} (hg : yl ops ρ j = some b) (h : denOps P ops (⟨dst, op, ty, pos, after, none⟩ :: rest) ρ w K) : denOps P ops (⟨dst, op, ty, pos, after, some (j, b)⟩ :: rest) ρ w K := by
  show denI P ops _ ρ w _
  unfold denI
  rw [if_pos (by simp [Region.wanted, hg])]
  have h : denI P ops _ ρ w _ := h
  unfold denI at h
  rw [if_pos (by rfl)] at h
  exact h
theorem d_gn {op : Op} {j : Nat} {b : Bool} (hg : yl ops ρ j = some (!b)) (h : denOps P ops rest (put ρ dst undef) w K) : denOps P ops (⟨dst, op, ty, pos, after, some (j, b)⟩ :: rest) ρ w K := by
  show denI P ops _ ρ w _
  unfold denI
  rw [if_neg (by simp [Region.wanted, hg])]
  exact h
theorem d_gu {op : Op} {j : Nat} {b : Bool} (hg : yl ops ρ j = none) (h : denOps P ops rest (put ρ dst undef) w K) : denOps P ops (⟨dst, op, ty, pos, after, some (j, b)⟩ :: rest) ρ w K := by
  show denI P ops _ ρ w _
  unfold denI
  rw [if_neg (by simp [Region.wanted, hg])]
  exact h
theorem put_self {d : Nat} {v : Value} (h : ρ d = v) : put ρ (some d) v = ρ := by
  funext t
  by_cases e : t = d
  · subst e; rw [put_same]; exact h.symm
  · rw [put_ne _ _ _ _ e]
theorem d_case {l : List Oper} (d : Nat) {p : Prop} [Decidable p] (hd : ρ d = .bool (decide p)) (h1 : p → denOps P ops l (put ρ (some d) (.bool true)) w K) (h2 : ¬ p → denOps P ops l (put ρ (some d) (.bool false)) w K) : denOps P ops l ρ w K := by
  by_cases hp : p
  · have := h1 hp; rwa [put_self (by rw [hd, decide_eq_true hp])] at this
  · have := h2 hp; rwa [put_self (by rw [hd, decide_eq_false hp])] at this
theorem d_caseb {l : List Oper} (d : Nat) {b : Bool} (hd : ρ d = .bool b) (h1 : b = true → denOps P ops l (put ρ (some d) (.bool true)) w K) (h2 : b = false → denOps P ops l (put ρ (some d) (.bool false)) w K) : denOps P ops l ρ w K := by
  cases b with
  | true => have := h1 rfl; rwa [put_self hd] at this
  | false => have := h2 rfl; rwa [put_self hd] at this

-- memory
variable {L L' L2 : List Asrt} {x y : Operand} {b o E T : Nat} {c : Array Value}
theorem d_load [hs : TyScal P T] {v : Value} (H : St w0 w L) (hx : ev ρ x = .pointer (some ⟨b, o, none⟩)) (hm : Has L (cl b c E) L') (hv : c[o]? = some v) (k : denOps P ops rest (put ρ dst v) w K) :
    denOps P ops (⟨dst, .load T x, ty, pos, after, none⟩ :: rest) ρ w K := by
  refine d_op ?_
  have hr : (Instr.loadAt T (ev ρ x)).run P w = .ok v w := by
    rw [hx]; unfold Instr.loadAt
    rw [run_bind P _ _ w w _ rfl]; unfold loadVar
    rw [run_bind P _ _ w w _ (run_isAgg hs.h)]
    exact run_load1 (H.pick hm).cl_get hv
  have : (execOp (ev ρ) ⟨dst, .load T x, ty, pos, after, none⟩).run P w = .ok (.value v) w := op_run_value hr
  rw [this]; exact k
theorem d_load_old [hs : TyScal P T] {v : Value} {W : World} {fr : Nat × Nat} (H : St w0 w L) (hx : ev ρ x = .pointer (some ⟨b, o, none⟩)) (hm : Has L (old W) L') (hb : W.heap[b]? = some (.cells c E fr)) (hv : c[o]? = some v) (k : denOps P ops rest (put ρ dst v) w K) :
    denOps P ops (⟨dst, .load T x, ty, pos, after, none⟩ :: rest) ρ w K := by
  refine d_op ?_
  have hb' : w.heap[b]? = some (.cells c E fr) := by rw [(H.pick hm).old_get (Array.getElem?_eq_some_iff.1 hb).1]; exact hb
  have hr : (Instr.loadAt T (ev ρ x)).run P w = .ok v w := by
    rw [hx]; unfold Instr.loadAt
    rw [run_bind P _ _ w w _ rfl]; unfold loadVar
    rw [run_bind P _ _ w w _ (run_isAgg hs.h)]
    exact run_load1 hb' hv
  have : (execOp (ev ρ) ⟨dst, .load T x, ty, pos, after, none⟩).run P w = .ok (.value v) w := op_run_value hr
  rw [this]; exact k
theorem run_loadAgg [hs : TyAggr P T] {n by' : Nat} {z : Value} [hi : TyI P T n by' z] {fr : Nat × Nat} (hb : w.heap[b]? = some (.cells c E fr)) (hv : o + n ≤ c.size) (hx : ev ρ x = .pointer (some ⟨b, o, none⟩)) :
    (Instr.loadAt T (ev ρ x)).run P w = .ok (.agg (c.extract o (o + n))) w := by
  rw [hx]; unfold Instr.loadAt
  rw [run_bind P _ _ w w _ rfl]; unfold loadVar
  rw [run_bind P _ _ w w _ (run_isAgg hs.h)]
  simp only [if_true]
  rw [run_bind P _ _ w w _ (run_size hi), run_bind P _ _ w w _ (run_loadCells hb o n hv)]; rfl
theorem d_load_agg [hs : TyAggr P T] {n by' : Nat} {z : Value} [hi : TyI P T n by' z] (H : St w0 w L) (hx : ev ρ x = .pointer (some ⟨b, o, none⟩)) (hm : Has L (cl b c E) L') (hv : o + n ≤ c.size) (k : denOps P ops rest (put ρ dst (.agg (c.extract o (o + n)))) w K) :
    denOps P ops (⟨dst, .load T x, ty, pos, after, none⟩ :: rest) ρ w K := by
  refine d_op ?_
  have : (execOp (ev ρ) ⟨dst, .load T x, ty, pos, after, none⟩).run P w = .ok (.value (.agg (c.extract o (o + n)))) w := op_run_value (run_loadAgg (H.pick hm).cl_get hv hx)
  rw [this]; exact k
theorem d_load_agg_old [hs : TyAggr P T] {n by' : Nat} {z : Value} [hi : TyI P T n by' z] {W : World} {fr : Nat × Nat} (H : St w0 w L) (hx : ev ρ x = .pointer (some ⟨b, o, none⟩)) (hm : Has L (old W) L') (hb : W.heap[b]? = some (.cells c E fr)) (hv : o + n ≤ c.size) (k : denOps P ops rest (put ρ dst (.agg (c.extract o (o + n)))) w K) :
    denOps P ops (⟨dst, .load T x, ty, pos, after, none⟩ :: rest) ρ w K := by
  refine d_op ?_
  have hb' : w.heap[b]? = some (.cells c E fr) := by rw [(H.pick hm).old_get (Array.getElem?_eq_some_iff.1 hb).1]; exact hb
  have : (execOp (ev ρ) ⟨dst, .load T x, ty, pos, after, none⟩).run P w = .ok (.value (.agg (c.extract o (o + n)))) w := op_run_value (run_loadAgg hb' hv hx)
  rw [this]; exact k

theorem St.wset {A : Asrt} {c' : Array Value} (H : St w0 w L) (hm : Repl L (cl b c E) (cl b c' E) L2) : St w0 { w with heap := w.heap.setIfInBounds b (.cells c' E (0, 0)) } L2 := by
  obtain ⟨M, h1, h2⟩ := hm.has
  exact ((H.pick h1).set (.cells c' E (0, 0))).unpick h2
theorem run_storeVar {n by' : Nat} {z v : Value} [hi : TyI P T n by' z] (hb : w.heap[b]? = some (.cells c E (0, 0))) (hn : v.cells.size = n) (hv : o + n ≤ c.size) (h1 : v.cells.toList.all oneC = true) :
    (storeVar T ⟨b, o, none⟩ v).run P w = .ok () { w with heap := w.heap.setIfInBounds b (.cells (wr c o v.cells.toList) E (0, 0)) } := by
  unfold storeVar
  show ((sizeOf T) >>= _).run P w = _
  rw [run_bind P _ _ w w _ (run_size hi)]
  rw [if_neg (by simp [hn])]
  have := run_storeCells (P := P) v.cells.toList hb o 0 (by simp [hn]; omega) h1
  simpa using this
theorem d_store_gen {n by' : Nat} {z v : Value} [hi : TyI P T n by' z] {c' : Array Value} (H : St w0 w L) (hx : ev ρ x = .pointer (some ⟨b, o, none⟩)) (hy : ev ρ y = v) (hm : Repl L (cl b c E) (cl b c' E) L2) (hn : v.cells.size = n) (hv : o + n ≤ c.size)
    (h1 : v.cells.toList.all oneC = true) (hc : wr c o v.cells.toList = c') (k : ∀ w', St w0 w' L2 → denOps P ops rest (put ρ dst undef) w' K) :
    denOps P ops (⟨dst, .store T x y, ty, pos, after, none⟩ :: rest) ρ w K := by
  refine d_op ?_
  obtain ⟨M, hh1, hh2⟩ := hm.has
  have hr : (Instr.storeAt T (ev ρ x) (ev ρ y)).run P w = .ok () { w with heap := w.heap.setIfInBounds b (.cells (wr c o v.cells.toList) E (0, 0)) } := by
    rw [hx, hy]; unfold Instr.storeAt
    rw [run_bind P _ _ w w _ rfl]
    exact run_storeVar (H.pick hh1).cl_get hn hv h1
  have : (execOp (ev ρ) ⟨dst, .store T x y, ty, pos, after, none⟩).run P w = .ok .skip _ := op_run_unit hr
  rw [this]
  subst hc
  exact k _ (((H.pick hh1).set (.cells (wr c o v.cells.toList) E (0, 0))).unpick hh2)
theorem cells_one {v : Value} (h : oneC v = true) : v.cells = #[v] := by cases v <;> first | rfl | cases h
/-- A store of one cell. -/
theorem d_store {by' : Nat} {z v : Value} [hi : TyI P T 1 by' z] (H : St w0 w L) (hx : ev ρ x = .pointer (some ⟨b, o, none⟩)) (hy : ev ρ y = v) (h1 : oneC v = true) (hm : Repl L (cl b c E) (cl b (c.setIfInBounds o v) E) L2) (hv : o < c.size)
    (k : ∀ w', St w0 w' L2 → denOps P ops rest (put ρ dst undef) w' K) :
    denOps P ops (⟨dst, .store T x y, ty, pos, after, none⟩ :: rest) ρ w K :=
  d_store_gen H hx hy hm (by rw [cells_one h1]; rfl) (by omega) (by rw [cells_one h1]; simp [h1]) (by rw [cells_one h1]; rfl) k
theorem d_store_i {by' : Nat} {z : Value} {kk : IntKind} {v : Int} [hi : TyI P T 1 by' z] (H : St w0 w L) (hx : ev ρ x = .pointer (some ⟨b, o, none⟩)) (hy : ev ρ y = .int kk v) (hm : Repl L (cl b c E) (cl b (c.setIfInBounds o (.int kk v)) E) L2) (hv : o < c.size)
    (k : ∀ w', St w0 w' L2 → denOps P ops rest (put ρ dst undef) w' K) : denOps P ops (⟨dst, .store T x y, ty, pos, after, none⟩ :: rest) ρ w K := d_store H hx hy rfl hm hv k
theorem d_store_b {by' : Nat} {z : Value} {v : Bool} [hi : TyI P T 1 by' z] (H : St w0 w L) (hx : ev ρ x = .pointer (some ⟨b, o, none⟩)) (hy : ev ρ y = .bool v) (hm : Repl L (cl b c E) (cl b (c.setIfInBounds o (.bool v)) E) L2) (hv : o < c.size)
    (k : ∀ w', St w0 w' L2 → denOps P ops rest (put ρ dst undef) w' K) : denOps P ops (⟨dst, .store T x y, ty, pos, after, none⟩ :: rest) ρ w K := d_store H hx hy rfl hm hv k
theorem d_store_p {by' : Nat} {z : Value} {v : Option Addr} [hi : TyI P T 1 by' z] (H : St w0 w L) (hx : ev ρ x = .pointer (some ⟨b, o, none⟩)) (hy : ev ρ y = .pointer v) (hm : Repl L (cl b c E) (cl b (c.setIfInBounds o (.pointer v)) E) L2) (hv : o < c.size)
    (k : ∀ w', St w0 w' L2 → denOps P ops rest (put ρ dst undef) w' K) : denOps P ops (⟨dst, .store T x y, ty, pos, after, none⟩ :: rest) ρ w K := d_store H hx hy rfl hm hv k
theorem d_store_s {by' : Nat} {z : Value} {v : Option Addr} {l cc : Nat} [hi : TyI P T 1 by' z] (H : St w0 w L) (hx : ev ρ x = .pointer (some ⟨b, o, none⟩)) (hy : ev ρ y = .slice v l cc) (hm : Repl L (cl b c E) (cl b (c.setIfInBounds o (.slice v l cc)) E) L2) (hv : o < c.size)
    (k : ∀ w', St w0 w' L2 → denOps P ops rest (put ρ dst undef) w' K) : denOps P ops (⟨dst, .store T x y, ty, pos, after, none⟩ :: rest) ρ w K := d_store H hx hy rfl hm hv k
/-- A whole block. -/
theorem d_load_all [hs : TyAggr P T] {n by' : Nat} {z : Value} [hi : TyI P T n by' z] (H : St w0 w L) (hx : ev ρ x = .pointer (some ⟨b, 0, none⟩)) (hm : Has L (cl b c E) L') (hv : c.size = n) (k : denOps P ops rest (put ρ dst (.agg c)) w K) :
    denOps P ops (⟨dst, .load T x, ty, pos, after, none⟩ :: rest) ρ w K := by
  refine d_load_agg H hx hm (by omega) ?_
  have : c.extract 0 (0 + n) = c := by rw [Nat.zero_add, ← hv]; simp
  rw [this]; exact k
/-- A store of an aggregate. -/
theorem d_store_agg {n by' : Nat} {z : Value} {vs : Array Value} [hi : TyI P T n by' z] (H : St w0 w L) (hx : ev ρ x = .pointer (some ⟨b, o, none⟩)) (hy : ev ρ y = .agg vs) (hn : vs.size = n) (h1 : vs.toList.all oneC = true) (hm : Repl L (cl b c E) (cl b (wr c o vs.toList) E) L2) (hv : o + n ≤ c.size)
    (k : ∀ w', St w0 w' L2 → denOps P ops rest (put ρ dst undef) w' K) :
    denOps P ops (⟨dst, .store T x y, ty, pos, after, none⟩ :: rest) ρ w K :=
  d_store_gen H hx hy hm hn hv h1 rfl k
/-- ... that fills its block. -/
theorem wr_all (vs c : Array Value) (h : vs.size = c.size) : wr c 0 vs.toList = vs := by
  apply Array.ext_getElem?
  intro k
  rw [wr_get _ _ _ _ (by simp [h])]
  by_cases hk : k < vs.size
  · rw [if_pos (by simp; omega)]; simp
  · rw [if_neg (by simp; omega), Array.getElem?_eq_none (by omega), Array.getElem?_eq_none (by omega)]
theorem d_store_all {n by' : Nat} {z : Value} {vs : Array Value} [hi : TyI P T n by' z] (H : St w0 w L) (hx : ev ρ x = .pointer (some ⟨b, 0, none⟩)) (hy : ev ρ y = .agg vs) (hn : vs.size = n) (h1 : vs.toList.all oneC = true) (hm : Repl L (cl b c E) (cl b vs E) L2) (hv : c.size = n)
    (k : ∀ w', St w0 w' L2 → denOps P ops rest (put ρ dst undef) w' K) :
    denOps P ops (⟨dst, .store T x y, ty, pos, after, none⟩ :: rest) ρ w K :=
  d_store_gen H hx hy hm hn (by omega) h1 (wr_all vs c (by omega)) k

theorem run_newVar {v : Value} : (newVar T v).run P w = .ok ⟨w.heap.size, 0, none⟩ { w with heap := w.heap.push (.cells v.cells T (0, 0)) } := rfl
theorem d_alloc {n by' : Nat} {z : Value} [hi : TyI P T n by' z] (H : St w0 w L) (k : ∀ w' b, St w0 w' (cl b z.cells T :: L) → denOps P ops rest (put ρ dst (.pointer (some ⟨b, 0, none⟩))) w' K) :
    denOps P ops (⟨dst, .alloc T, ty, pos, after, none⟩ :: rest) ρ w K := by
  refine d_op ?_
  have hr : (Instr.alloc T true (.tuple #[])).run P w = .ok (.pointer (some ⟨w.heap.size, 0, none⟩)) { w with heap := w.heap.push (.cells z.cells T (0, 0)) } := by
    unfold Instr.alloc
    rw [run_bind P _ _ w w _ (run_zero hi)]; rfl
  have : (execOp (ev ρ) ⟨dst, .alloc T, ty, pos, after, none⟩).run P w = .ok (.value _) _ := op_run_value hr
  rw [this]
  exact k _ _ (H.alloc _)
theorem d_box {v : Value} (H : St w0 w L) (hx : ev ρ x = v) (k : ∀ w' b, St w0 w' (cl b v.cells T :: L) → denOps P ops rest (put ρ dst (.pointer (some ⟨b, 0, none⟩))) w' K) :
    denOps P ops (⟨dst, .box T x, ty, pos, after, none⟩ :: rest) ρ w K := by
  refine d_op ?_
  have hr : (Instr.box T (ev ρ x)).run P w = .ok (.pointer (some ⟨w.heap.size, 0, none⟩)) { w with heap := w.heap.push (.cells v.cells T (0, 0)) } := by rw [hx]; rfl
  have : (execOp (ev ρ) ⟨dst, .box T x, ty, pos, after, none⟩).run P w = .ok (.value _) _ := op_run_value hr
  rw [this]
  exact k _ _ (H.alloc _)
/-- A slice of noughts. -/
theorem run_askRoom (n : Nat) : (askRoom n).run P w = .ok () w := by unfold askRoom; split <;> rfl
theorem madeCells (z : Value) (n : Nat) (h : 0 < z.cells.size) : ((Array.range (n * z.cells.size)).map (z.cells[· % z.cells.size]!)) = (List.replicate n z.cells.toList).flatten.toArray := by
  apply Array.ext'
  simp only [Array.toList_map, Array.toList_range, List.toList_toArray]
  induction n with
  | zero => simp
  | succ n ih =>
    rw [List.replicate_succ', List.flatten_append, ← ih, Nat.succ_mul, List.range_add, List.map_append]
    congr 1
    simp only [List.flatten_cons, List.flatten_nil, List.append_nil, List.map_map]
    apply List.ext_getElem
    · simp
    · intro k h1 h2
      simp only [List.getElem_map, List.getElem_range, Function.comp_apply]
      have hk : k < z.cells.size := by simpa using h2
      have : (n * z.cells.size + k) % z.cells.size = k := by rw [Nat.add_comm, Nat.add_mul_mod_self_right, Nat.mod_eq_of_lt hk]
      rw [this]
      simp [hk]
theorem run_makeSlice {n by' : Nat} {z l cp : Value} {len cap : Nat} [hs : TySlice P T E] [hi : TyI P E n by' z] (hl : l = .int .i64 len) (hc : cp = .int .i64 cap) (hle : len ≤ cap) (hz : z.cells.size = n) (h0 : 0 < n) (hcap : cap ≤ 9223372036854775807) (hb : cap * by' ≤ 281474976710656) :
    (Instr.makeSlice T l cp).run P w = .ok (.slice (some ⟨w.heap.size, 0, none⟩) len cap) { w with heap := w.heap.push (.cells (List.replicate cap z.cells.toList).flatten.toArray E (0, 0)) } := by
  subst hl; subst hc
  unfold Instr.makeSlice
  rw [run_bind P _ _ w w _ (run_under hs.h)]
  simp only []
  obtain ⟨ti, hti, _, hby, _⟩ := hi.out
  rw [run_bind P _ _ w w (len : Int) rfl, run_bind P _ _ w w (cap : Int) rfl, run_bind P _ _ w w _ (run_tinfo hti)]
  simp only [hby]
  have e1 : IntKind.i64.wrap (len : Int) = len := IntWalk.i64_in _ ⟨by omega, by omega⟩
  have e2 : IntKind.i64.wrap (cap : Int) = cap := IntWalk.i64_in _ ⟨by omega, by omega⟩
  have e3 : ¬ (((by' : Int) * (cap : Int)) > 2 ^ 48) := by
    have : (2 : Int) ^ 48 = 281474976710656 := by decide
    rw [this]
    have : ((by' : Int) * (cap : Int)) = ((cap * by' : Nat) : Int) := by rw [Nat.mul_comm]; simp
    rw [this]; omega
  simp only [e1, e2]
  rw [if_neg (by simp only [Bool.or_eq_true, decide_eq_true_eq]; omega)]
  simp only [Int.toNat_natCast]
  rw [run_bind P _ _ w w _ (run_askRoom _), run_bind P _ _ w w _ (run_size hi)]
  by_cases hc0 : cap = 0
  · subst hc0
    simp only [Nat.zero_mul, if_true, pure_bind]
    rw [show (Array.map (fun x => (#[] : Array Value)[x % (#[] : Array Value).size]!) (Array.range 0)) = #[] from by apply Array.ext'; simp]
    rfl
  · have : cap * n ≠ 0 := by intro h; rcases Nat.mul_eq_zero.1 h with h | h <;> omega
    rw [if_neg this, run_bind P _ _ w w _ (run_zero hi)]
    subst hz
    simp only [pure_bind]
    rw [madeCells z cap h0]
    rfl
theorem d_makeSlice {n by' : Nat} {z : Value} {len cap : Nat} [hs : TySlice P T E] [hi : TyI P E n by' z] (H : St w0 w L) (hl : ev ρ x = .int .i64 len) (hc : ev ρ y = .int .i64 cap) (hle : len ≤ cap) (hcap : cap ≤ 9223372036854775807) (hb : cap * by' ≤ 281474976710656) (h0 : 0 < n)
    (k : ∀ w' b, St w0 w' (cl b (List.replicate cap z.cells.toList).flatten.toArray E :: L) → denOps P ops rest (put ρ dst (.slice (some ⟨b, 0, none⟩) len cap)) w' K) :
    denOps P ops (⟨dst, .makeSlice T x y, ty, pos, after, none⟩ :: rest) ρ w K := by
  refine d_op ?_
  have : (execOp (ev ρ) ⟨dst, .makeSlice T x y, ty, pos, after, none⟩).run P w = .ok (.value _) _ := op_run_value (run_makeSlice hl hc hle hi.zs h0 hcap hb)
  rw [this]
  exact k _ _ (H.alloc _)

/-- Literals: the parts in their order, none left out. -/
def partsV (ρ : Env) (ps : Array (Nat × Operand)) : List (Nat × Value) := ps.toList.map fun p => (p.1, ev ρ p.2)
theorem d_buildSlice {n by' : Nat} {z : Value} {len : Nat} {ps : Array (Nat × Operand)} {cs : Array Value} [hs : TySlice P T E] [hi : TyI P E n by' z] (H : St w0 w L) (hlen : len * n ≤ 16777216) (h0 : 0 < n)
    (hf : Instr.fill (fun i => some (i * n, n)) (List.replicate len z.cells.toList).flatten.toArray (partsV ρ ps) = some cs)
    (k : ∀ w' b, St w0 w' (cl b cs E :: L) → denOps P ops rest (put ρ dst (.slice (some ⟨b, 0, none⟩) len len)) w' K) :
    denOps P ops (⟨dst, .buildSlice T len ps, ty, pos, after, none⟩ :: rest) ρ w K := by
  have hz := hi.zs
  refine d_op ?_
  have hp : (ps.map fun p => (p.1, ev ρ p.2)).toList = partsV ρ ps := by simp [partsV]
  have hr : (Instr.buildSlice T len (ps.map fun p => (p.1, ev ρ p.2))).run P w = .ok (.slice (some ⟨w.heap.size, 0, none⟩) len len) { w with heap := w.heap.push (.cells cs E (0, 0)) } := by
    unfold Instr.buildSlice
    rw [run_bind P _ _ w w _ (run_under hs.h)]
    simp only []
    rw [run_bind P _ _ w w _ (run_size hi)]
    rw [if_neg (by have : (2 : Nat) ^ 24 = 16777216 := by decide
                   omega)]
    by_cases hc0 : len = 0
    · subst hc0
      simp only [Nat.zero_mul, if_true, pure_bind]
      rw [show (Array.map (fun x => (#[] : Array Value)[x % (#[] : Array Value).size]!) (Array.range 0)) = #[] from by apply Array.ext'; simp, hp]
      have hf' : Instr.fill (fun i => some (i * n, n)) #[] (partsV ρ ps) = some cs := hf
      rw [hf']; rfl
    · have hne : len * n ≠ 0 := by intro h; rcases Nat.mul_eq_zero.1 h with h | h <;> omega
      rw [if_neg hne, run_bind P _ _ w w _ (run_zero hi)]
      subst hz
      simp only [pure_bind]
      rw [madeCells z len h0, hp, hf]
      rfl
  have : (execOp (ev ρ) ⟨dst, .buildSlice T len ps, ty, pos, after, none⟩).run P w = .ok (.value _) _ := op_run_value hr
  rw [this]
  exact k _ _ (H.alloc _)
end steps
end Go.Sl
