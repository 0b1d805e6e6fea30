/- the engine: boxes by kind, the world behind a walk. -/
import Derived.Test.YtiebmodokjaokabEngN
set_option linter.unusedVariables false
set_option linter.unusedSimpArgs false
namespace Go.Sl
open Go
section
variable {P : Program} {ops : Array Oper} {dst : Option Nat} {ty T : TypeId} {pos : String} {after : Array Edge} {rest : List Oper} {ρ : Env} {w w0 : World} {K : Env → World → Prop} {x : Operand} {L : List Asrt}
theorem d_box_p {a : Option Addr} (H : St w0 w L) (hx : ev ρ x = .pointer a) (k : ∀ w' b, St w0 w' (cl b #[.pointer a] T :: L) → denOps P ops rest (put ρ dst (.pointer (some ⟨b, 0, none⟩))) w' K) :
    denOps P ops (⟨dst, .box T x, ty, pos, after, none⟩ :: rest) ρ w K := d_box H hx k
theorem d_box_i {kk : IntKind} {n : Int} (H : St w0 w L) (hx : ev ρ x = .int kk n) (k : ∀ w' b, St w0 w' (cl b #[.int kk n] T :: L) → denOps P ops rest (put ρ dst (.pointer (some ⟨b, 0, none⟩))) w' K) :
    denOps P ops (⟨dst, .box T x, ty, pos, after, none⟩ :: rest) ρ w K := d_box H hx k
theorem d_box_s {a : Option Addr} {n c : Nat} (H : St w0 w L) (hx : ev ρ x = .slice a n c) (k : ∀ w' b, St w0 w' (cl b #[.slice a n c] T :: L) → denOps P ops rest (put ρ dst (.pointer (some ⟨b, 0, none⟩))) w' K) :
    denOps P ops (⟨dst, .box T x, ty, pos, after, none⟩ :: rest) ρ w K := d_box H hx k
theorem d_box_b {b : Bool} (H : St w0 w L) (hx : ev ρ x = .bool b) (k : ∀ w' b', St w0 w' (cl b' #[.bool b] T :: L) → denOps P ops rest (put ρ dst (.pointer (some ⟨b', 0, none⟩))) w' K) :
    denOps P ops (⟨dst, .box T x, ty, pos, after, none⟩ :: rest) ρ w K := d_box H hx k
theorem d_box_a {cs : Array Value} (H : St w0 w L) (hx : ev ρ x = .agg cs) (k : ∀ w' b', St w0 w' (cl b' cs T :: L) → denOps P ops rest (put ρ dst (.pointer (some ⟨b', 0, none⟩))) w' K) :
    denOps P ops (⟨dst, .box T x, ty, pos, after, none⟩ :: rest) ρ w K := d_box H hx k
theorem d_alloc_c {n by' : Nat} {z : Value} {cs : Array Value} [hi : TyI P T n by' z] (H : St w0 w L) (hz : z.cells = cs) (k : ∀ w' b, St w0 w' (cl b cs T :: L) → denOps P ops rest (put ρ dst (.pointer (some ⟨b, 0, none⟩))) w' K) :
    denOps P ops (⟨dst, .alloc T, ty, pos, after, none⟩ :: rest) ρ w K := by subst hz; exact d_alloc H k
theorem ds_load_all {K : Env → World → Prop} {S : World → Prop} {r : List (Nat × Bool × Bool)} {i : Nat} {n : Bool} {L L' : List Asrt} {b E m by' : Nat} {z : Value} {c : Array Value} [hs : TyAggr P T] [hi : TyI P T m by' z] (ho : ops[i]? = some ⟨dst, .load T x, ty, pos, after, none⟩) (hx : ev ρ x = .pointer (some ⟨b, 0, none⟩)) (HS : ∀ w', S w' → St w0 w' L) (hm : Has L (cl b c E) L') (hv : c.size = m) (hS : S w)
    (k : denS P ops S K r (put ρ dst (.agg c)) w) : denS P ops S K ((i, true, n) :: r) ρ w := by
  refine ⟨_, .agg c, ho, ⟨fun _ w' hS' => ?_, fun e => by cases e⟩, hS, k⟩
  have hr := run_loadAgg (P := P) (ρ := ρ) (x := x) (T := T) (o := 0) (n := m) ((HS w' hS').pick hm).cl_get (by omega) hx
  have hc : c.extract 0 (0 + m) = c := by rw [Nat.zero_add, ← hv]; simp
  rw [hc] at hr
  exact op_run_value hr
theorem pv_makeFuncL {f : Fn} {as bs : List Operand} : PV P (.makeFunc f as.toArray bs.toArray) ρ (.func f (as.map (ev ρ)).toArray (bs.map (ev ρ)).toArray) := by
  have h := pv_makeFunc (P := P) (ρ := ρ) (f := f) (a := as.toArray) (b := bs.toArray)
  simpa using h
end
theorem SlW.cellAt {w : World} {b o n k : Nat} {xs : List Value} (h : SlW w 1 (.slice (some ⟨b, o, none⟩) n k) n xs) {i : Nat} (hi : i < n) : ∃ c E fr, w.heap[b]? = some (.cells c E fr) ∧ c[o + i]? = xs[i]? := by
  obtain ⟨xb, xo, xk, xc, xE, xfr, hxv, hxb, hxs, hxe⟩ := h.elem1 (by omega)
  simp only [Value.slice.injEq, Option.some.injEq, Addr.mk.injEq] at hxv
  obtain ⟨⟨rfl, rfl, _⟩, _, rfl⟩ := hxv
  exact ⟨xc, xE, xfr, hxb, hxe i hi⟩
theorem SlW.isSome {w : World} {n k : Nat} {a : Option Addr} {xs : List Value} {sz : Nat} (h : SlW w sz (.slice a n k) n xs) (hn : 0 < n) : ∃ b o, a = some ⟨b, o, none⟩ := by
  obtain ⟨_, h⟩ := h
  rcases h with ⟨a, k, h, h0⟩ | ⟨b, o, k, c, E, fr, h, _⟩
  · omega
  · simp only [Value.slice.injEq] at h
    exact ⟨b, o, h.1⟩
theorem ds_load_sl {P : Program} {ops : Array Oper} {dst : Option Nat} {ty T : TypeId} {pos : String} {after : Array Edge} {ρ : Env} {w : World} {x : Operand} {K : Env → World → Prop} {S : World → Prop} {r : List (Nat × Bool × Bool)} {i : Nat} {n : Bool} {b o m k j : Nat} {xs : List Value} {v : Value} [hs : TyScal P T]
    (ho : ops[i]? = some ⟨dst, .load T x, ty, pos, after, none⟩) (hx : ev ρ x = .pointer (some ⟨b, o + j, none⟩)) (HS : ∀ w', S w' → SlW w' 1 (.slice (some ⟨b, o, none⟩) m k) m xs) (hj : j < m) (hv : xs[j]? = some v) (hS : S w)
    (kk : denS P ops S K r (put ρ dst v) w) : denS P ops S K ((i, true, n) :: r) ρ w := by
  refine ⟨_, v, ho, ⟨fun _ w' hS' => ?_, fun e => by cases e⟩, hS, kk⟩
  obtain ⟨c, E, fr, hb, hc⟩ := (HS w' hS').cellAt hj
  have hr : (Instr.loadAt T (ev ρ x)).run P w' = .ok v w' := by
    rw [hx]; unfold Instr.loadAt
    rw [run_bind P _ _ w' w' _ rfl]; unfold loadVar
    rw [run_bind P _ _ w' w' _ (run_isAgg hs.h)]
    exact run_load1 hb (hc.trans hv)
  exact op_run_value hr
theorem d_load_sl {P : Program} {ops : Array Oper} {dst : Option Nat} {ty T : TypeId} {pos : String} {after : Array Edge} {rest : List Oper} {ρ : Env} {w : World} {x : Operand} {K : Env → World → Prop} {b o m k j : Nat} {xs : List Value} {v : Value} [hs : TyScal P T]
    (hx : ev ρ x = .pointer (some ⟨b, o + j, none⟩)) (HS : SlW w 1 (.slice (some ⟨b, o, none⟩) m k) m xs) (hj : j < m) (hv : xs[j]? = some v)
    (kk : denOps P ops rest (put ρ dst v) w K) : denOps P ops (⟨dst, .load T x, ty, pos, after, none⟩ :: rest) ρ w K := by
  obtain ⟨c, E, fr, hb, hc⟩ := HS.cellAt hj
  exact d_load_w hx hb (hc.trans hv) kk
def u8v (n : Int) : Value := .int .u8 n
end Go.Sl
