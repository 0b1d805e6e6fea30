/- The engine, eighth part: the rules in the form in which a proof takes them. -/
import Derived.Test.YtiebmodokjaokabEngG
set_option linter.unusedVariables false
set_option linter.unusedSimpArgs false
namespace Go.Sl
open Go

theorem pv_pick_tb {P : Program} {ρ : Env} {c a b : Operand} {x : Bool} (hc : ev ρ c = .bool true) (ha : ev ρ a = .bool x) : PV P (.pick c a b) ρ (.bool x) := pv_pick_t hc ha
theorem pv_pick_fb {P : Program} {ρ : Env} {c a b : Operand} {x : Bool} (hc : ev ρ c = .bool false) (ha : ev ρ b = .bool x) : PV P (.pick c a b) ρ (.bool x) := pv_pick_f hc ha
/-- The pieces in another order. -/
inductive Arr : List Asrt → List Asrt → Prop
  | nil {L} : Arr L L
  | cons {L L' A M} : Has L A L' → Arr L' M → Arr L (A :: M)
  | stop {L} : Arr L []
  | skip {A L M} : Arr L M → Arr (A :: L) M
theorem Arr.sat {L M : List Asrt} (h : Arr L M) : ∀ {f : Frag}, SatF L f → SatF M f := by
  induction h with
  | nil => exact id
  | cons hh _ ih => exact fun hs => (hh.front hs).imp fun _ => ih
  | stop => exact fun _ => trivial
  | skip _ ih => exact fun hs => ih hs.tail
theorem St.arr {w0 w : World} {L M : List Asrt} (H : St w0 w L) (h : Arr L M) : St w0 w M := H.imp fun _ => h.sat
section ids
variable {P : Program} {ops : Array Oper} {dst : Option Nat} {op : Op} {ty : TypeId} {pos : String} {after : Array Edge} {rest l : List Oper} {ρ : Env} {w : World} {K : Env → World → Prop}
theorem i_ops (h : denOps P ops l ρ w K) : denOps P ops l ρ w K := h
theorem i_plain (h : denOps P ops (⟨dst, op, ty, pos, after, none⟩ :: rest) ρ w K) : denOps P ops (⟨dst, op, ty, pos, after, none⟩ :: rest) ρ w K := h
theorem i_guard {g : Nat × Bool} (h : denOps P ops (⟨dst, op, ty, pos, after, some g⟩ :: rest) ρ w K) : denOps P ops (⟨dst, op, ty, pos, after, some g⟩ :: rest) ρ w K := h
theorem i_load {T : TypeId} {x : Operand} (h : denOps P ops (⟨dst, .load T x, ty, pos, after, none⟩ :: rest) ρ w K) : denOps P ops (⟨dst, .load T x, ty, pos, after, none⟩ :: rest) ρ w K := h
theorem i_store {T : TypeId} {x y : Operand} (h : denOps P ops (⟨dst, .store T x y, ty, pos, after, none⟩ :: rest) ρ w K) : denOps P ops (⟨dst, .store T x y, ty, pos, after, none⟩ :: rest) ρ w K := h
end ids
abbrev Post := Exit → Env → World → Prop
def thenK (k : Env → World → Prop) (Q : Post) : Post := fun e ρ w => match e with | .normal => k ρ w | e => Q e ρ w
def blockK (id : Nat) (Q : Post) : Post := fun e ρ w => match e with | .exit id' => if id' = id then Q .normal ρ w else Q (.exit id') ρ w | e => Q e ρ w
def cutK {S : Type} (I : S → World → Prop) (U : S → List (Nat × Value)) (Q : Post) : Post := fun e ρ w => match e with | .normal => ∃ s, I s w ∧ Fits ρ (U s) | e => Q e ρ w
def loopK {S : Type} (I : S → World → Prop) (U : S → List (Nat × Value)) (μ : S → Nat) (m : Nat) (Q : Post) : Post := fun e ρ w => match e with | .normal => ∃ s, μ s < m ∧ I s w ∧ Fits ρ (U s) | e => Q e ρ w

section
variable {P : Program} {x y c : Code} {ρ : Env} {w : World} {Q : Post} {k : Env → World → Prop}
theorem i_den (h : den P c ρ w Q) : den P c ρ w Q := h
theorem i_cond {cc : Operand} (h : den P (.cond cc x y) ρ w Q) : den P (.cond cc x y) ρ w Q := h
theorem e_seq (h : den P x ρ w (thenK (fun ρ' w' => den P y ρ' w' Q) Q)) : den P (.seq x y) ρ w Q := h
theorem e_seqr {id : Nat} {l : List Oper} (h : denOps P l.toArray l ρ w (fun ρ' w' => den P y ρ' w' Q)) : den P (.seq (.region id l.toArray false) y) ρ w Q := h
theorem e_seqd {id : Nat} {l : List Oper} (h : den P (.region id l.toArray true) ρ w (thenK (fun ρ' w' => den P y ρ' w' Q) Q)) : den P (.seq (.region id l.toArray true) y) ρ w Q := h
theorem e_seqs (h : den P y ρ w Q) : den P (.seq .skip y) ρ w Q := h
theorem e_reg {id : Nat} {l : List Oper} (h : denOps P l.toArray l ρ w (fun ρ' w' => Q .normal ρ' w')) : den P (.region id l.toArray false) ρ w Q := h
theorem e_skip (h : Q .normal ρ w) : den P .skip ρ w Q := h
theorem e_block {id : Nat} (h : den P c ρ w (blockK id Q)) : den P (.block id c) ρ w Q := h
theorem e_exit {id : Nat} (h : Q (.exit id) ρ w) : den P (.exit id) ρ w Q := h
theorem e_label {id : Nat} (h : Q .normal ρ w) : den P (.label id) ρ w Q := h
theorem e_ret (h : Q .ret ρ w) : den P .ret ρ w Q := h
theorem e_then_n (h : k ρ w) : thenK k Q .normal ρ w := h
theorem e_then_x {id : Nat} (h : Q (.exit id) ρ w) : thenK k Q (.exit id) ρ w := h
theorem e_then_r (h : Q .ret ρ w) : thenK k Q .ret ρ w := h
theorem e_block_n {id : Nat} (h : Q .normal ρ w) : blockK id Q .normal ρ w := h
theorem e_block_r {id : Nat} (h : Q .ret ρ w) : blockK id Q .ret ρ w := h
theorem e_block_hit {id : Nat} (h : Q .normal ρ w) : blockK id Q (.exit id) ρ w := by simp only [blockK, if_true]; exact h
theorem e_block_miss {id id' : Nat} (hne : Nat.beq id' id = false) (h : Q (.exit id') ρ w) : blockK id Q (.exit id') ρ w := by
  have : id' ≠ id := fun e => by rw [e, beq_self] at hne; cases hne
  simp only [blockK, if_neg this]; exact h
theorem e_cut_x {S : Type} {I : S → World → Prop} {U : S → List (Nat × Value)} {id : Nat} (h : Q (.exit id) ρ w) : cutK I U Q (.exit id) ρ w := h
theorem e_cut_r {S : Type} {I : S → World → Prop} {U : S → List (Nat × Value)} (h : Q .ret ρ w) : cutK I U Q .ret ρ w := h
theorem e_cut_n {S : Type} {I : S → World → Prop} {U : S → List (Nat × Value)} (s : S) (hI : I s w) (hf : Fits ρ (U s)) : cutK I U Q .normal ρ w := ⟨s, hI, hf⟩
theorem e_loop_x {S : Type} {I : S → World → Prop} {U : S → List (Nat × Value)} {μ : S → Nat} {m id : Nat} (h : Q (.exit id) ρ w) : loopK I U μ m Q (.exit id) ρ w := h
theorem e_loop_r {S : Type} {I : S → World → Prop} {U : S → List (Nat × Value)} {μ : S → Nat} {m : Nat} (h : Q .ret ρ w) : loopK I U μ m Q .ret ρ w := h
theorem e_loop_n {S : Type} {I : S → World → Prop} {U : S → List (Nat × Value)} {μ : S → Nat} {m : Nat} (s : S) (hm : μ s < m) (hI : I s w) (hf : Fits ρ (U s)) : loopK I U μ m Q .normal ρ w := ⟨s, hm, hI, hf⟩
theorem e_cut {S : Type} (mods : List (Nat × Nat)) (hm : cIn mods x = true) (I : S → World → Prop) (U : S → List (Nat × Value))
    (h : den P x ρ w (cutK I U Q)) (k : ∀ s w' u, I s w' → den P y (over (U s) (patch mods u ρ)) w' Q) : den P (.seq x y) ρ w Q := den_cut mods hm I U h k
theorem e_loop {S : Type} (mods : List (Nat × Nat)) (hm : cIn mods c = true) (I : S → World → Prop) (U : S → List (Nat × Value)) (μ : S → Nat) (s0 : S) (h0 : I s0 w) (hf : Fits ρ (U s0))
    (round : ∀ s w' u, I s w' → den P c (over (U s) (patch mods u ρ)) w' (loopK I U μ (μ s) Q)) : den P (.loop c) ρ w Q := den_loop mods hm I U μ s0 h0 hf round

theorem d_gsplit {ops : Array Oper} {dst : Option Nat} {op : Op} {ty : TypeId} {pos : String} {after : Array Edge} {rest : List Oper} {j d : Nat} {b : Bool} {p : Prop} [Decidable p]
    (hj : (ops[j]?).bind (·.dst) = some d) (hd : ρ d = .bool (decide p)) (h1 : p → denOps P ops (⟨dst, op, ty, pos, after, some (j, b)⟩ :: rest) (put ρ (some d) (.bool true)) w k) (h2 : ¬ p → denOps P ops (⟨dst, op, ty, pos, after, some (j, b)⟩ :: rest) (put ρ (some d) (.bool false)) w k) :
    denOps P ops (⟨dst, op, ty, pos, after, some (j, b)⟩ :: rest) ρ w k := d_case d hd h1 h2
theorem d_gsplitb {ops : Array Oper} {dst : Option Nat} {op : Op} {ty : TypeId} {pos : String} {after : Array Edge} {rest : List Oper} {j d : Nat} {b t : Bool}
    (hj : (ops[j]?).bind (·.dst) = some d) (hd : ρ d = .bool t) (h1 : t = true → denOps P ops (⟨dst, op, ty, pos, after, some (j, b)⟩ :: rest) (put ρ (some d) (.bool true)) w k) (h2 : t = false → denOps P ops (⟨dst, op, ty, pos, after, some (j, b)⟩ :: rest) (put ρ (some d) (.bool false)) w k) :
    denOps P ops (⟨dst, op, ty, pos, after, some (j, b)⟩ :: rest) ρ w k := d_caseb d hd h1 h2
theorem e_draw {ops : Array Oper} {id : Nat} {w0 : World} {L : List Asrt} (H : St w0 w L) (ord : List (Nat × Bool × Bool)) (hchk : drawOk ops ord = true) (h : ∀ w', St w0 w' L → denS P ops (fun w' => St w0 w' L) (Q .normal) ord ρ w') : den P (.region id ops true) ρ w Q :=
  den_draw _ ord hchk fun w' hw => h w' (by subst hw; exact H.drawn _)
theorem e_drawM {ops : Array Oper} {id : Nat} {w0 : World} {L : List Asrt} (M : List Asrt) (H : St w0 w L) (ord : List (Nat × Bool × Bool)) (hchk : drawOk ops ord = true) (h : ∀ w', St w0 w' L → denS P ops (fun w' => St w0 w' M) (Q .normal) ord ρ w') : den P (.region id ops true) ρ w Q :=
  den_draw _ ord hchk fun w' hw => h w' (by subst hw; exact H.drawn _)
section dsr
variable {ops : Array Oper} {S : World → Prop} {K : Env → World → Prop} {r : List (Nat × Bool × Bool)} {i : Nat}
theorem i_dsq {n : Bool} (h : denS P ops S K ((i, true, n) :: r) ρ w) : denS P ops S K ((i, true, n) :: r) ρ w := h
end dsr
variable {R : Value → World → Prop}
theorem r_0 (h : R (.tuple #[]) w) : retK P [] R .ret ρ w := ⟨[], rfl, h⟩
theorem r_0n (h : R (.tuple #[]) w) : retK P [] R .normal ρ w := ⟨[], rfl, h⟩
theorem r_1 {t : Nat} {v : Value} (hv : ρ t = v) (h : R v w) : retK P [.tmp t] R .ret ρ w := by subst hv; exact ⟨[ρ t], ⟨[], rfl, rfl⟩, h⟩
theorem r_2' {t u : Nat} {v v' : Value} (hv : ρ t = v) (hv' : ρ u = v') (h : R (.tuple #[v, v']) w) : retK P [.tmp t, .tmp u] R .ret ρ w := by
  subst hv; subst hv'; exact ⟨[ρ t, ρ u], ⟨[ρ u], rfl, [], rfl, rfl⟩, h⟩
theorem r_b {t : Nat} {b : Bool} (hv : ρ t = .bool b) (h : R (.bool b) w) : retK P [.tmp t] R .ret ρ w := r_1 hv h
theorem r_i {t : Nat} {k : IntKind} {n : Int} (hv : ρ t = .int k n) (h : R (.int k n) w) : retK P [.tmp t] R .ret ρ w := r_1 hv h
theorem r_s {t : Nat} {a : Option Addr} {l c : Nat} (hv : ρ t = .slice a l c) (h : R (.slice a l c) w) : retK P [.tmp t] R .ret ρ w := r_1 hv h
theorem r_p {t : Nat} {a : Option Addr} (hv : ρ t = .pointer a) (h : R (.pointer a) w) : retK P [.tmp t] R .ret ρ w := r_1 hv h
theorem r_si {t u : Nat} {a : Option Addr} {l c : Nat} {k : IntKind} {n : Int} (hv : ρ t = .slice a l c) (hv' : ρ u = .int k n) (h : R (.tuple #[.slice a l c, .int k n]) w) : retK P [.tmp t, .tmp u] R .ret ρ w := r_2' hv hv' h
theorem r_ii {t u : Nat} {k k' : IntKind} {n n' : Int} (hv : ρ t = .int k n) (hv' : ρ u = .int k' n') (h : R (.tuple #[.int k n, .int k' n']) w) : retK P [.tmp t, .tmp u] R .ret ρ w := r_2' hv hv' h
theorem r_pi {t u : Nat} {a : Option Addr} {k : IntKind} {n : Int} (hv : ρ t = .pointer a) (hv' : ρ u = .int k n) (h : R (.tuple #[.pointer a, .int k n]) w) : retK P [.tmp t, .tmp u] R .ret ρ w := r_2' hv hv' h
theorem r_2 {t u : Nat} {v v' : Value} (hv : ρ t = v) (hv' : ρ u = v') (h : R (.tuple #[v, v']) w) : retK P [.tmp t, .tmp u] R .ret ρ w := by
  subst hv; subst hv'; exact ⟨[ρ t, ρ u], ⟨[ρ u], rfl, [], rfl, rfl⟩, h⟩
theorem r_3 {t u s : Nat} {v v' v2 : Value} (hv : ρ t = v) (hv' : ρ u = v') (hv2 : ρ s = v2) (h : R (.tuple #[v, v', v2]) w) : retK P [.tmp t, .tmp u, .tmp s] R .ret ρ w := by
  subst hv; subst hv'; subst hv2; exact ⟨[ρ t, ρ u, ρ s], ⟨[ρ u, ρ s], rfl, [ρ s], rfl, [], rfl, rfl⟩, h⟩
theorem run_loadVar {T n by' b o E : Nat} {z : Value} {cs : Array Value} {fr : Nat × Nat} [hs : TyAggr P T] [hi : TyI P T n by' z] (hb : w.heap[b]? = some (.cells cs E fr)) (hv : o + n ≤ cs.size) :
    (loadVar T ⟨b, o, none⟩).run P w = .ok (.agg (cs.extract o (o + n))) w := by
  unfold loadVar
  rw [run_bind P _ _ w w _ (run_isAgg hs.h)]
  simp only [if_true]
  rw [run_bind P _ _ w w _ (run_size hi), run_bind P _ _ w w _ (run_loadCells hb o n hv)]; rfl
/-- A struct or array result lies in a variable of its own. -/
theorem r_cell {T n by' b E t : Nat} {z : Value} {cs : Array Value} {w0 : World} {L L' : List Asrt} [hs : TyAggr P T] [hi : TyI P T n by' z] (H : St w0 w L) (hv : ρ t = .pointer (some ⟨b, 0, none⟩)) (hm : Has L (cl b cs E) L') (hn : cs.size = n)
    (h : R (.agg cs) w) : retK P [.cell t T] R .ret ρ w := by
  refine ⟨[.agg cs], ⟨_, _, [], hv, ?_, rfl, rfl⟩, h⟩
  rw [run_loadVar (H.pick hm).cl_get (by omega)]
  simp [hn]
end
end Go.Sl
