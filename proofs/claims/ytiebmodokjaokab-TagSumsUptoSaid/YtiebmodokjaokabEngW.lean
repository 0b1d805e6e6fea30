/- The engine over pieces alone: arrays of bytes compared; slices of bytes, of slices of bytes; many pieces as one. -/
import Derived.Test.YtiebmodokjaokabEngV
set_option linter.unusedVariables false
set_option linter.unusedSimpArgs false
namespace Go.Sl
open Go
abbrev Byte := BitVec 8
/-- An array type of n bytes. -/
class TyBA (P : Program) (T : Nat) (n : outParam Nat) : Prop where
  ex : ∃ E, P.underlying T = some (.array n E) ∧ P.underlying E = some (.int .u8) ∧ P.cellsOf E = 1
  ct : P.cellsOf T = n
  key : P.keyTypeAt 4 T = true
  g : P.eqGuardType P.depth T = false
theorem byte_wf (b : Byte) : (Lit.int .u8 (b.toNat : Int)).wf = true := by
  have := b.isLt
  simp only [Lit.wf, Bool.and_eq_true, decide_eq_true_eq]
  have e1 : IntKind.u8.min = 0 := by decide
  have e2 : IntKind.u8.max = 255 := by decide
  omega
theorem ba_lits {P : Program} {T n : Nat} [h : TyBA P T n] (a : List Byte) (ha : a.length = n) : P.keyLits 2 T (a.map u8b) = some (a.map fun b => Lit.int .u8 (b.toNat : Int)) := by
  obtain ⟨E, h1, h2, h3⟩ := h.ex
  have := lits_arr (d := 0) (k := .u8) h1 h2 h3 h.ct (a.map fun b => (b.toNat : Int)) (by simpa using ha) (by
    intro x hx
    obtain ⟨b, _, rfl⟩ := List.mem_map.1 hx
    exact byte_wf b)
  rw [List.map_map, List.map_map] at this
  exact this
theorem ba_inj {a b : List Byte} : a = b ↔ (a.map fun b => Lit.int .u8 (b.toNat : Int)) = (b.map fun b => Lit.int .u8 (b.toNat : Int)) := by
  constructor
  · rintro rfl; rfl
  · intro h
    refine List.map_inj_right ?_ |>.1 h
    intro x y hxy
    simp only [Lit.int.injEq, true_and] at hxy
    exact BitVec.eq_of_toNat_eq (by omega)
theorem ba_formed {P : Program} {T n : Nat} [h : TyBA P T n] (a : List Byte) (ha : a.length = n) : (Value.agg (a.map u8b).toArray).formed P T = true := by
  obtain ⟨E, h1, h2, h3⟩ := h.ex
  have := h.ct
  simp [Value.formed, h1, this, ha]
section
variable {P : Program} {ρ : Env} {x y : Operand} {T T' n : Nat}
theorem pv_eql_ba [h : TyBA P T n] {a b : List Byte} (ha : a.length = n) (hb : b.length = n) (hx : ev ρ x = .agg (a.map u8b).toArray) (hy : ev ρ y = .agg (b.map u8b).toArray) : PV P (.binOp .eql T x y T') ρ (.bool (decide (a = b))) :=
  pv_eql_agg (m := 4) hx hy h.key (by omega) h.g (ba_formed a ha) (ba_formed b hb) (ba_lits a ha) (ba_lits b hb) ba_inj
theorem pv_neq_ba [h : TyBA P T n] {a b : List Byte} (ha : a.length = n) (hb : b.length = n) (hx : ev ρ x = .agg (a.map u8b).toArray) (hy : ev ρ y = .agg (b.map u8b).toArray) : PV P (.binOp .neq T x y T') ρ (.bool (decide (¬ a = b))) :=
  pv_neq_agg (m := 4) hx hy h.key (by omega) h.g (ba_formed a ha) (ba_formed b hb) (ba_lits a ha) (ba_lits b hb) ba_inj
end
/-- Among the pieces M the slice v holds the bytes l. -/
structure Bs (M : List Asrt) (v : Value) (l : List Byte) : Prop where
  rd : Rd M 1 v l.length (l.map u8b)
  sh : ∀ w0 F w, St w0 w (F :: M) → ∃ a c, v = .slice a l.length c ∧ l.length ≤ c ∧ c ≤ 9223372036854775807
theorem Bs.imp {M N : List Asrt} {v : Value} {l : List Byte} (h : Bs N v l) (hi : Imp M N) : Bs M v l := ⟨h.rd.imp hi, fun w0 F w H => h.sh w0 F w (H.enx hi)⟩
theorem own_shape {E size n : Nat} {v : Value} {xs : List Value} {w0 w : World} {L : List Asrt} (H : St w0 w (own E size v n xs :: L)) : ∃ a c, v = .slice a n c ∧ n ≤ c ∧ c ≤ 9223372036854775807 := by
  rcases H.own_get with ⟨rfl, rfl, rfl, _⟩ | ⟨g, cap, cur, rfl, h2, h3, h4, h5, h6, H⟩
  · exact ⟨none, 0, rfl, by omega, by omega⟩
  · exact ⟨_, cap, rfl, h2, h3⟩
theorem Bs.own {M M' : List Asrt} {E : Nat} {v : Value} {l : List Byte} (hm : Has M (own E 1 v l.length (l.map u8b)) M') : Bs M v l :=
  ⟨Rd.own hm, fun w0 F w H => own_shape (H.pick (.there hm))⟩
theorem Bs.old {M M' : List Asrt} {W : World} {v : Value} {l : List Byte} (hm : Has M (old W) M') (h : SlW W 1 v l.length (l.map u8b)) (hs : ∃ a c, v = .slice a l.length c ∧ l.length ≤ c ∧ c ≤ 9223372036854775807) : Bs M v l :=
  ⟨Rd.old hm h, fun _ _ _ _ => hs⟩
theorem Bs.cl {M M' : List Asrt} {b o c E : Nat} {cc : Array Value} {l : List Byte} (hm : Has M (cl b cc E) M') (hle : o + l.length ≤ cc.size) (h : (cc.extract o (o + l.length)).toList = l.map u8b) (hc : l.length ≤ c) (hcm : c ≤ 9223372036854775807) :
    Bs M (.slice (some ⟨b, o, none⟩) l.length c) l :=
  ⟨Rd.cl hm (by simp) (by omega) (by rw [Nat.mul_one]; exact h), fun _ _ _ _ => ⟨_, _, rfl, hc, hcm⟩⟩
theorem Bs.nil {M : List Asrt} : Bs M (.slice none 0 0) [] := ⟨Rd.nil, fun _ _ _ _ => ⟨none, 0, rfl, by simp, by omega⟩⟩
theorem Bs.some {M : List Asrt} {a : Option Addr} {n c : Nat} {l : List Byte} {w0 w : World} {F : Asrt} (h : Bs M (.slice a n c) l) (hn : 0 < l.length) (H : St w0 w (F :: M)) : ∃ b o, a = some ⟨b, o, none⟩ := by
  obtain ⟨a', c', hv, _, _⟩ := h.sh _ _ _ H
  simp only [Value.slice.injEq] at hv
  obtain ⟨rfl, rfl, rfl⟩ := hv
  exact h.rd.someAt hn H
/-- ... a slice of slices of bytes: each with its value. -/
structure Rs (M : List Asrt) (v : Value) (ps : List (Value × List Byte)) : Prop where
  rd : Rd M 1 v ps.length (ps.map (·.1))
  sh : ∀ w0 F w, St w0 w (F :: M) → ∃ a c, v = .slice a ps.length c ∧ ps.length ≤ c ∧ c ≤ 9223372036854775807
  el : ∀ x ∈ ps, Bs M x.1 x.2
theorem Rs.imp {M N : List Asrt} {v : Value} {ps : List (Value × List Byte)} (h : Rs N v ps) (hi : Imp M N) : Rs M v ps := ⟨h.rd.imp hi, fun w0 F w H => h.sh w0 F w (H.enx hi), fun x hx => (h.el x hx).imp hi⟩
theorem Rs.own {M M' : List Asrt} {E : Nat} {v : Value} {ps : List (Value × List Byte)} (hm : Has M (Sl.own E 1 v ps.length (ps.map (·.1))) M') (h : ∀ x ∈ ps, Bs M x.1 x.2) : Rs M v ps :=
  ⟨Rd.own hm, fun w0 F w H => own_shape (H.pick (.there hm)), h⟩
theorem Rs.cl {M M' : List Asrt} {b o c E : Nat} {cc : Array Value} {ps : List (Value × List Byte)} (hm : Has M (Sl.cl b cc E) M') (hle : o + ps.length ≤ cc.size) (h : (cc.extract o (o + ps.length)).toList = ps.map (·.1)) (hc : ps.length ≤ c) (hcm : c ≤ 9223372036854775807) (he : ∀ x ∈ ps, Bs M x.1 x.2) :
    Rs M (.slice (some ⟨b, o, none⟩) ps.length c) ps :=
  ⟨Rd.cl hm (by simp) (by omega) (by rw [Nat.mul_one]; exact h), fun _ _ _ _ => ⟨_, _, rfl, hc, hcm⟩, he⟩

theorem Imp.own_mk {E size n cap g : Nat} {cur : Array Value} {xs : List Value} {M : List Asrt} (h1 : n ≤ cap) (h2 : cap ≤ 9223372036854775807) (h3 : cur.size = cap * size) (h4 : cur.toList.take (n * size) = xs) :
    Imp (Sl.cl g cur E :: M) (Sl.own E size (.slice (some ⟨g, 0, none⟩) n cap) n xs :: M) :=
  Imp.head fun h hg => ⟨by rw [← h4, List.length_take, Array.length_toList, h3]; exact Nat.min_eq_left (Nat.mul_le_mul_right _ h1), .inr ⟨g, cap, cur, rfl, hg, h1, h2, h3, h4⟩⟩
theorem Imp.own_nil {E size : Nat} {M : List Asrt} : Imp M (Sl.own E size (.slice none 0 0) 0 [] :: M) :=
  fun h hs => ⟨fun _ => none, h, ⟨by simp, .inl ⟨rfl, rfl⟩⟩, hs, Frag.none_disj _, Frag.none_sub _, Frag.sub_refl _⟩
theorem own_some {E n c : Nat} {a : Option Addr} {xs : List Value} {w0 w : World} {F : Asrt} {M M' : List Asrt} (hm : Has M (Sl.own E 1 (.slice a n c) n xs) M') (hn : 0 < n) (H : St w0 w (F :: M)) : ∃ g, a = some ⟨g, 0, none⟩ := by
  rcases (H.pick (.there hm)).own_get with ⟨hv, rfl, _⟩ | ⟨g, cap, cur, hv, _⟩
  · omega
  · simp only [Value.slice.injEq] at hv
    exact ⟨g, hv.1⟩
theorem x_load_slz {P : Program} {w0 : World} {ops : Array Oper} {dst : Option Nat} {ty T : TypeId} {pos : String} {after : Array Edge} {rest : List Oper} {ρ : Env} {K : XK} {M : List Asrt} {x : Operand} {b m k j : Nat} {xs : List Value} {v : Value} [hs : TyScal P T] (hx : ev ρ x = .pointer (some ⟨b, j, none⟩)) (HS : Rd M 1 (.slice (some ⟨b, 0, none⟩) m k) m xs) (hj : j < m) (hv : xs[j]? = some v)
    (kk : xOps P w0 ops rest (put ρ dst v) M K) : xOps P w0 ops (⟨dst, .load T x, ty, pos, after, none⟩ :: rest) ρ M K := x_load_sl (o := 0) (j := j) (by rw [Nat.zero_add]; exact hx) HS hj hv kk
/-- An element of a slice with its room is written. -/
theorem x_store_own1 {P : Program} {w0 : World} {ops : Array Oper} {dst : Option Nat} {ty T : TypeId} {pos : String} {after : Array Edge} {rest : List Oper} {ρ : Env} {K : XK} {M M2 : List Asrt} {x y : Operand} {by' g i n c E : Nat} {z u : Value} {xs ys : List Value} [hi : TyI P T 1 by' z]
    (hx : ev ρ x = .pointer (some ⟨g, i, none⟩)) (hy : ev ρ y = u) (h1 : oneC u = true) (hm : Repl M (Sl.own E 1 (.slice (some ⟨g, 0, none⟩) n c) n xs) (Sl.own E 1 (.slice (some ⟨g, 0, none⟩) n c) n ys) M2) (hn : i < n) (hys : xs.set i u = ys)
    (k : xOps P w0 ops rest (put ρ dst undef) M2 K) : xOps P w0 ops (⟨dst, .store T x y, ty, pos, after, none⟩ :: rest) ρ M K := by
  intro F w H
  obtain ⟨R, hh1, hh2⟩ := hm.has
  have H1 := H.pick (.there hh1)
  rcases H1.own_get with ⟨hv, _⟩ | ⟨g', cap, cur, hv, h2, h3, h4, h5, h6, H3⟩
  · cases hv
  · simp only [Value.slice.injEq, Option.some.injEq, Addr.mk.injEq] at hv
    obtain ⟨⟨rfl, _, _⟩, _, rfl⟩ := hv
    refine d_store H3 hx hy h1 Repl.here (by omega) ?_
    intro w' H'
    have H4 := H'.own_mk (size := 1) (n := n) (cap := c) (xs := ys) h2 h3 (by simpa using h4) (by
      rw [← hys, ← h5, Nat.mul_one, Array.toList_setIfInBounds, List.take_set])
    exact k F w' (H4.unpick (.there hh2))
/-- Many pieces as one. -/
def star {α : Type} (A : α → Asrt) (l : List α) : Asrt := all (l.map A)
theorem star_nil {α : Type} {A : α → Asrt} {M : List Asrt} : Imp M (star A [] :: M) := by
  have := Imp.app (L := []) (M := M)
  exact this
theorem star_cons {α : Type} {A : α → Asrt} {x : α} {l : List α} {M : List Asrt} : Imp (A x :: star A l :: M) (star A (x :: l) :: M) := by
  have h : Imp (A x :: star A l :: M) (A x :: (l.map A ++ M)) := Imp.cons Imp.unapp
  exact h.trans (Imp.app (L := A x :: l.map A))
theorem star_uncons {α : Type} {A : α → Asrt} {x : α} {l : List α} {M : List Asrt} : Imp (star A (x :: l) :: M) (A x :: star A l :: M) := by
  have h : Imp (star A (x :: l) :: M) (A x :: (l.map A ++ M)) := Imp.unapp (L := A x :: l.map A)
  exact h.trans (Imp.cons Imp.app)
theorem star_app {α : Type} {A : α → Asrt} {l l2 : List α} {M : List Asrt} : Imp (star A l :: star A l2 :: M) (star A (l ++ l2) :: M) := by
  induction l with
  | nil => exact Imp.tail
  | cons x l ih =>
    refine (star_uncons (M := star A l2 :: M)).trans ?_
    exact (Imp.cons ih).trans star_cons
theorem star_unapp {α : Type} {A : α → Asrt} {l l2 : List α} {M : List Asrt} : Imp (star A (l ++ l2) :: M) (star A l :: star A l2 :: M) := by
  induction l with
  | nil => exact star_nil
  | cons x l ih =>
    refine (star_uncons (M := M)).trans ?_
    exact (Imp.cons ih).trans (star_cons (M := star A l2 :: M))
theorem star_snoc {α : Type} {A : α → Asrt} {x : α} {l : List α} {M : List Asrt} : Imp (A x :: star A l :: M) (star A (l ++ [x]) :: M) := by
  have h1 : Imp (A x :: star A l :: M) (star A [x] :: star A l :: M) := by
    have := star_cons (A := A) (x := x) (l := []) (M := star A l :: M)
    exact (Imp.cons star_nil).trans this
  exact h1.trans (Imp.swap.trans star_app)
/-- One of them, and the others. -/
theorem star_at {α : Type} {A : α → Asrt} {l : List α} {i : Nat} (h : i < l.length) {M : List Asrt} : Imp (star A l :: M) (A l[i] :: star A (l.eraseIdx i) :: M) := by
  have e : l = l.take i ++ l[i] :: l.drop (i + 1) := by rw [← List.drop_eq_getElem_cons h, List.take_append_drop]
  have e2 : l.eraseIdx i = l.take i ++ l.drop (i + 1) := List.eraseIdx_eq_take_drop_succ ..
  have h1 : Imp (star A l :: M) (star A (l.take i) :: star A (l[i] :: l.drop (i + 1)) :: M) := by
    have := star_unapp (A := A) (l := l.take i) (l2 := l[i] :: l.drop (i + 1)) (M := M)
    rwa [← e] at this
  rw [e2]
  refine h1.trans ((Imp.cons star_uncons).trans ?_)
  exact Imp.swap.trans (Imp.cons star_app)
theorem star_back {α : Type} {A : α → Asrt} {l : List α} {i : Nat} (h : i < l.length) (y : α) {M : List Asrt} : Imp (A y :: star A (l.eraseIdx i) :: M) (star A (l.set i y) :: M) := by
  have e2 : l.eraseIdx i = l.take i ++ l.drop (i + 1) := List.eraseIdx_eq_take_drop_succ ..
  rw [e2, List.set_eq_take_append_cons_drop, if_pos h]
  refine (Imp.cons star_unapp).trans ?_
  refine Imp.swap.trans ?_
  exact (Imp.cons star_cons).trans star_app
theorem star_mem {α : Type} {A : α → Asrt} {l : List α} {x : α} (h : x ∈ l) {M : List Asrt} : ∃ R, Imp (star A l :: M) (A x :: R) := by
  obtain ⟨i, hi, rfl⟩ := List.getElem_of_mem h
  exact ⟨_, star_at hi⟩
theorem star_has {α : Type} {A : α → Asrt} {l : List α} {x : α} (h : x ∈ l) {M M' : List Asrt} (hm : Has M (star A l) M') : ∃ R, Imp M (A x :: R) := by
  obtain ⟨R, hR⟩ := star_mem (A := A) h (M := M')
  exact ⟨R, (Imp.has hm).trans hR⟩
end Go.Sl
