/- The engine: slices that are read; copy. -/
import Derived.Test.YtiebmodokjaokabEngM
set_option linter.unusedVariables false
set_option linter.unusedSimpArgs false
namespace Go.Sl
open Go

/-- In the world w the slice v has n elements, of the cells xs. -/
def SlW (w : World) (size : Nat) (v : Value) (n : Nat) (xs : List Value) : Prop :=
  xs.length = n * size ∧ ((∃ a k, v = .slice a n k ∧ n = 0) ∨ ∃ b o k c E fr, v = .slice (some ⟨b, o, none⟩) n k ∧ w.heap[b]? = some (.cells c E fr) ∧ o + n * size ≤ c.size ∧ (c.extract o (o + n * size)).toList = xs)
section
variable {P : Program} {w w0 W : World} {L L' L2 : List Asrt} {E size n : Nat} {v : Value} {xs : List Value}
theorem St.own_sl (H : St w0 w (own E size v n xs :: L)) : SlW w size v n xs := by
  rcases H.own_get with ⟨rfl, rfl, rfl, _⟩ | ⟨g, cap, cur, rfl, h2, h3, h4, h5, h6, H⟩
  · exact ⟨by simp, .inl ⟨none, 0, rfl, rfl⟩⟩
  · refine ⟨h6, .inr ⟨g, 0, cap, cur, E, (0, 0), rfl, H.cl_get, ?_, ?_⟩⟩
    · rw [h4, Nat.zero_add]; exact Nat.mul_le_mul_right _ h2
    · rw [Array.toList_extract]; simp [List.extract, h5]
theorem St.old_sl (H : St w0 w (old W :: L)) (h : SlW W size v n xs) : SlW w size v n xs := by
  obtain ⟨h1, h2⟩ := h
  refine ⟨h1, ?_⟩
  rcases h2 with h2 | ⟨b, o, k, c, E, fr, rfl, hb, hle, hx⟩
  · exact .inl h2
  · refine .inr ⟨b, o, k, c, E, fr, rfl, ?_, hle, hx⟩
    rw [H.old_get (Array.getElem?_eq_some_iff.1 hb).1]; exact hb
theorem SlW.drawn (h : SlW w size v n xs) (d : Nat) : SlW { w with drawn := d } size v n xs := h
theorem SlW.len (h : SlW w size v n xs) : ∃ a k, v = .slice a n k := by
  rcases h.2 with ⟨a, k, rfl, _⟩ | ⟨b, o, k, c, E, fr, rfl, _⟩
  · exact ⟨_, _, rfl⟩
  · exact ⟨_, _, rfl⟩
theorem SlW.lenOf (h : SlW w size v n xs) : (Builtin.lenOf v).run P w = .ok n w := by
  obtain ⟨a, k, rfl⟩ := h.len; rfl
theorem SlW.first (h : SlW w size v n xs) (m : Nat) (hm : m ≤ n) : (Builtin.firstCells size m v).run P w = .ok (xs.take (m * size)).toArray w := by
  rcases h.2 with ⟨a, k, rfl, rfl⟩ | ⟨b, o, k, c, E, fr, rfl, hb, hle, hx⟩
  · have : m = 0 := by omega
    subst this
    have : xs = [] := by simpa using h.1
    subst this
    cases a with
    | none => simp [Builtin.firstCells]
    | some a =>
      show (loadCells a (0 * size)).run P w = _
      rw [Nat.zero_mul]; rfl
  · have hmn : m * size ≤ n * size := Nat.mul_le_mul_right _ hm
    show (loadCells ⟨b, o, none⟩ (m * size)).run P w = _
    rw [run_loadCells hb o (m * size) (by omega)]
    congr 1
    apply Array.ext'
    rw [← hx]
    simp only [Array.toList_extract, List.extract_eq_take_drop, List.take_take]
    congr 1
    omega
/-- Where an element stands. -/
theorem SlW.elem (h : SlW w size v n xs) (hs : 0 < size) (hn : 0 < n) : ∃ b o k c E fr, v = .slice (some ⟨b, o, none⟩) n k ∧ w.heap[b]? = some (.cells c E fr) ∧ o + n * size ≤ c.size ∧ ∀ i, i < n * size → c[o + i]? = xs[i]? := by
  rcases h.2 with ⟨a, k, rfl, rfl⟩ | ⟨b, o, k, c, E, fr, rfl, hb, hle, hx⟩
  · omega
  · refine ⟨b, o, k, c, E, fr, rfl, hb, hle, fun i hi => ?_⟩
    rw [← hx, Array.getElem?_toList, Array.getElem?_extract_of_lt (by omega), Array.getElem?_eq_getElem (by omega)]
end
theorem Has.of_mem {L : List Asrt} {A : Asrt} (h : A ∈ L) : ∃ L', Has L A L' := by
  induction h with
  | head l => exact ⟨_, .here⟩
  | tail b _ ih => obtain ⟨L', h⟩ := ih; exact ⟨_, .there h⟩
theorem SlW.elem1 {w : World} {n : Nat} {v : Value} {xs : List Value} (h : SlW w 1 v n xs) (hn : 0 < n) : ∃ b o k c E fr, v = .slice (some ⟨b, o, none⟩) n k ∧ w.heap[b]? = some (.cells c E fr) ∧ o + n ≤ c.size ∧ ∀ i, i < n → c[o + i]? = xs[i]? := by
  obtain ⟨b, o, k, c, E, fr, h1, h2, h3, h4⟩ := h.elem (by decide) hn
  exact ⟨b, o, k, c, E, fr, h1, h2, by omega, fun i hi => h4 i (by omega)⟩
theorem pv_indexAddr1 {P : Program} {ρ : Env} {x y : Operand} {k : IntKind} {S E by' bb o l c : Nat} {z : Value} {n : Int} [hs : TySlice P S E] [hi : TyI P E 1 by' z] (hx : ev ρ x = .slice (some ⟨bb, o, none⟩) l c) (hy : ev ρ y = .int k n) (h : 0 ≤ n ∧ n < l) :
    PV P (.indexAddr S x y) ρ (.pointer (some ⟨bb, o + n.toNat, none⟩)) := by
  have := pv_indexAddr (P := P) (S := S) hx hy h; rwa [Nat.mul_one] at this
/-- Elements of several cells. -/
theorem flat_get {α : Type} {enc : α → List Value} {sz : Nat} (he : ∀ a, (enc a).length = sz) (l : List α) (i : Nat) (hi : i < l.length) : ((l.flatMap enc).drop (i * sz)).take sz = enc l[i] := by
  induction l generalizing i with
  | nil => simp at hi
  | cons a r ih =>
    cases i with
    | zero => simp [List.take_append_of_le_length (Nat.le_of_eq (he a).symm), List.take_of_length_le (Nat.le_of_eq (he a))]
    | succ i =>
      simp only [List.flatMap_cons, List.getElem_cons_succ]
      rw [show (i + 1) * sz = (enc a).length + i * sz from by rw [he a, Nat.succ_mul]; omega, List.drop_length_add_append]
      exact ih i (by simpa using hi)
theorem flat_len {α : Type} {enc : α → List Value} {sz : Nat} (he : ∀ a, (enc a).length = sz) (l : List α) : (l.flatMap enc).length = l.length * sz := by
  induction l with
  | nil => simp
  | cons a r ih => simp only [List.flatMap_cons, List.length_append, he a, ih, List.length_cons, Nat.succ_mul]; omega
theorem SlW.elemN {α : Type} {enc : α → List Value} {w : World} {sz : Nat} {v : Value} {l : List α} (he : ∀ a, (enc a).length = sz) (hsz : 0 < sz) (h : SlW w sz v l.length (l.flatMap enc)) (hn : 0 < l.length) : ∃ b o k c E fr, v = .slice (some ⟨b, o, none⟩) l.length k ∧ w.heap[b]? = some (.cells c E fr) ∧ o + l.length * sz ≤ c.size ∧
    ∀ i (hi : i < l.length), o + i * sz + sz ≤ c.size ∧ c.extract (o + i * sz) (o + i * sz + sz) = (enc l[i]).toArray := by
  rcases h.2 with ⟨_, k, rfl, h0⟩ | ⟨b, o, k, c, E, fr, rfl, hb, hle, hx⟩
  · omega
  · refine ⟨b, o, k, c, E, fr, rfl, hb, hle, fun i hi => ?_⟩
    have h1 : i * sz + sz ≤ l.length * sz := by rw [← Nat.succ_mul]; exact Nat.mul_le_mul_right _ hi
    refine ⟨by omega, ?_⟩
    apply Array.ext'
    have := flat_get he l i hi
    rw [← hx] at this
    simp only [Array.toList_extract, List.extract_eq_take_drop, List.drop_take, List.take_take, List.drop_drop] at this ⊢
    rw [← this]
    congr 1
    omega
/-- A slice of one-cell elements that is not empty: its block; and back. -/
theorem St.own1_open {w0 w : World} {L : List Asrt} {E n : Nat} {v : Value} {xs : List Value} (H : St w0 w (own E 1 v n xs :: L)) (hn : 0 < n) :
    ∃ g cap arr, v = .slice (some ⟨g, 0, none⟩) n cap ∧ n ≤ arr.size ∧ (∀ i, i < n → arr[i]? = xs[i]?) ∧ St w0 w (cl g arr E :: L) ∧
      ∀ (w0' w' : World) (arr' : Array Value) (xs' : List Value) (L' : List Asrt), arr'.size = arr.size → xs'.length = n → (∀ i, i < n → arr'[i]? = xs'[i]?) → St w0' w' (cl g arr' E :: L') → St w0' w' (own E 1 v n xs' :: L') := by
  rcases H.own_get with ⟨rfl, rfl, rfl, _⟩ | ⟨g, cap, cur, rfl, h2, h3, h4, h5, h6, H⟩
  · omega
  · refine ⟨g, cap, cur, rfl, by omega, fun i hi => ?_, H, fun w0' w' arr' xs' L' hs hl he H' => ?_⟩
    · rw [← h5, Nat.mul_one, List.getElem?_take_of_lt hi, Array.getElem?_toList]
    · refine H'.own_mk h2 h3 (by rw [hs, h4]) ?_
      rw [Nat.mul_one]
      apply List.ext_getElem?
      intro i
      by_cases hi : i < n
      · rw [List.getElem?_take_of_lt hi, Array.getElem?_toList]; exact he i hi
      · rw [List.getElem?_eq_none (by rw [List.length_take]; omega), List.getElem?_eq_none (by omega)]
/-- A literal of one part. -/
theorem fold_wr (off : Nat) : ∀ (vs : List Value) (k : Nat) (cs : Array Value), (vs.zipIdx k).foldl (fun cs (p : Value × Nat) => cs.setIfInBounds (off + p.2) p.1) cs = wr cs (off + k) vs
  | [], k, cs => rfl
  | v :: vs, k, cs => by
    rw [List.zipIdx_cons, List.foldl_cons, fold_wr off vs (k + 1)]
    rfl
theorem fill_one {n : Nat} {v : Value} {z : Array Value} (hv : v.cells.size = n) (hz : z.size = n) : Instr.fill (fun i => some (i * n, n)) z [(0, v)] = some v.cells := by
  show (if v.cells.size ≠ n || 0 * n + v.cells.size > z.size then none else Instr.fill (fun i => some (i * n, n)) (v.cells.zipIdx.foldl (fun cs (p : Value × Nat) => cs.setIfInBounds (0 * n + p.2) p.1) z) []) = _
  rw [if_neg (by simp [hv, hz])]
  show some _ = _
  congr 1
  rw [← Array.foldl_toList, Array.toList_zipIdx, fold_wr (0 * n) v.cells.toList 0 z]
  rw [show 0 * n + 0 = 0 from by omega]
  exact wr_all v.cells z (by rw [hv, hz])
theorem e_loopH {P : Program} {c : Code} {ρ : Env} {w w0 : World} {Q : Post} {S : Type} {L : List Asrt} (mods : List (Nat × Nat)) (hm : cIn mods c = true) (H : St w0 w L) (I : S → Prop) (U : S → List (Nat × Value)) (μ : S → Nat) (s0 : S) (h0 : I s0) (hf : Fits ρ (U s0))
    (round : ∀ s w' u, I s → St w0 w' L → den P c (over (U s) (patch mods u ρ)) w' (loopK (fun s w' => I s ∧ St w0 w' L) U μ (μ s) Q)) : den P (.loop c) ρ w Q :=
  e_loop mods hm (fun s w' => I s ∧ St w0 w' L) U μ s0 ⟨h0, H⟩ hf fun s w' u ⟨h1, h2⟩ => round s w' u h1 h2
/-- Of noughts. -/
theorem zeros1 (n : Nat) (z : Value) : (List.replicate n [z]).flatten = List.replicate n z := by
  induction n with
  | zero => rfl
  | succ n ih => rw [List.replicate_succ, List.flatten_cons, ih]; rfl
section steps
variable {P : Program} {ops : Array Oper} {dst : Option Nat} {ty : TypeId} {pos : String} {after : Array Edge} {rest : List Oper} {ρ : Env} {w w0 : World} {K : Env → World → Prop}
variable {L L' L2 : List Asrt} {x y : Operand} {b o E T : Nat} {c : Array Value}
/-- A load, the block being known in the world at hand. -/
theorem d_load_w [hs : TyScal P T] {v : Value} {fr : Nat × Nat} (hx : ev ρ x = .pointer (some ⟨b, o, none⟩)) (hb : w.heap[b]? = some (.cells c E fr)) (hv : c[o]? = some v) (k : denOps P ops rest (put ρ dst v) w K) :
    denOps P ops (⟨dst, .load T x, ty, pos, after, none⟩ :: rest) ρ w K := by
  refine d_op ?_
  have hr : (Instr.loadAt T (ev ρ x)).run P w = .ok v w := by
    rw [hx]; unfold Instr.loadAt
    rw [run_bind P _ _ w w _ rfl]; unfold loadVar
    rw [run_bind P _ _ w w _ (run_isAgg hs.h)]
    exact run_load1 hb hv
  have : (execOp (ev ρ) ⟨dst, .load T x, ty, pos, after, none⟩).run P w = .ok (.value v) w := op_run_value hr
  rw [this]; exact k
theorem d_load_agg_w [hs : TyAggr P T] {n by' : Nat} {z : Value} {cs : Array Value} [hi : TyI P T n by' z] {fr : Nat × Nat} (hx : ev ρ x = .pointer (some ⟨b, o, none⟩)) (hb : w.heap[b]? = some (.cells c E fr)) (hv : o + n ≤ c.size) (hc : c.extract o (o + n) = cs) (k : denOps P ops rest (put ρ dst (.agg cs)) w K) :
    denOps P ops (⟨dst, .load T x, ty, pos, after, none⟩ :: rest) ρ w K := by
  refine d_op ?_
  have : (execOp (ev ρ) ⟨dst, .load T x, ty, pos, after, none⟩).run P w = .ok (.value (.agg (c.extract o (o + n)))) w := op_run_value (run_loadAgg hb hv hx)
  rw [this, hc]; exact k
/-- append(s, t...). -/
theorem d_append_sl {size by' n m T' E' : Nat} {z v sv : Value} {xs news : List Value} [hs : TySlice P T E] [hi : TyI P E size by' z] [ht : TySlice P T' E']
    (H : St w0 w L) (hx : ev ρ x = v) (hy : ev ρ y = sv) (hm2 : Has L (own E size v n xs) L') (hsl : SlW w size sv m news)
    (h1 : news.all oneC = true) (hby : by' ≠ 0) (hb : (n + m) * by' ≤ 140737488355328)
    (h : ∀ a' c' w', St w0 w' (own E size (.slice a' (n + m) c') (n + m) (xs ++ news) :: L') → denOps P ops rest (put ρ dst (.slice a' (n + m) c')) w' K) :
    denOps P ops (⟨dst, .call { callee := .builtin .append, args := #[x, y], argTypes := #[T, T'] }, ty, pos, after, none⟩ :: rest) ρ w K := by
  refine d_op ?_
  obtain ⟨a', c', w', hr, H'⟩ := run_append (P := P) (T := T) (E := E) (ty := ty) (xv := sv) (m := m) (news := news) ht.h hi.zs hsl.lenOf (fun d => by
    have := (hsl.drawn d).first (P := P) m (Nat.le_refl _)
    rwa [← hsl.1, List.take_length] at this) hsl.1 h1 hby hb (H.pick hm2)
  have : (execOp (ev ρ) ⟨dst, .call { callee := .builtin .append, args := #[x, y], argTypes := #[T, T'] }, ty, pos, after, none⟩).run P w = .ok (.value (.slice a' (n + m) c')) w' := by
    refine op_run_value ?_
    simp only [List.map_toArray, List.map_cons, List.map_nil, hx, hy]
    exact hr
  rw [this]
  exact h _ _ _ H'
theorem d_copy {size by' n dl dc T' : Nat} {z sv : Value} {xs : List Value} {c' : Array Value} [hs : TySlice P T E] [hi : TyI P E size by' z] {E0 : Nat}
    (H : St w0 w L) (hx : ev ρ x = .slice (some ⟨b, o, none⟩) dl dc) (hy : ev ρ y = sv) (hsl : SlW w size sv n xs) (hm : Repl L (cl b c E0) (cl b c' E0) L2) (hle : o + dl * size ≤ c.size) (h1 : xs.all oneC = true) (hc : wr c o (xs.take (min n dl * size)) = c')
    (h : ∀ w', St w0 w' L2 → denOps P ops rest (put ρ dst (.int .i64 (min n dl : Nat))) w' K) :
    denOps P ops (⟨dst, .call { callee := .builtin .copy, args := #[x, y], argTypes := #[T, T'] }, ty, pos, after, none⟩ :: rest) ρ w K := by
  refine d_op ?_
  obtain ⟨M, hh1, hh2⟩ := hm.has
  have hmin : min n dl * size ≤ n * size ∧ min n dl * size ≤ dl * size := ⟨Nat.mul_le_mul_right _ (by omega), Nat.mul_le_mul_right _ (by omega)⟩
  have hlen : (xs.take (min n dl * size)).length = min n dl * size := by rw [List.length_take, hsl.1]; omega
  have : (execOp (ev ρ) ⟨dst, .call { callee := .builtin .copy, args := #[x, y], argTypes := #[T, T'] }, ty, pos, after, none⟩).run P w = .ok (.value (.int .i64 (min n dl : Nat))) { w with heap := w.heap.setIfInBounds b (.cells (wr c o (xs.take (min n dl * size))) E0 (0, 0)) } := by
    refine op_run_value ?_
    simp only [List.map_toArray, List.map_cons, List.map_nil, hx, hy, Builtin.copy_, List.getElem?_toArray, List.getElem?_cons_zero, List.getElem?_cons_succ]
    rw [run_bind P _ _ w w _ (run_under hs.h)]
    simp only []
    rw [run_bind P _ _ w w _ hsl.lenOf, run_bind P _ _ w w _ (run_size hi), run_bind P _ _ w w _ (hsl.first (min n dl) (by omega))]
    have hst := run_storeCells (P := P) (xs.take (min n dl * size)) (H.pick hh1).cl_get o 0 (by rw [hlen]; omega) (by
      rw [List.all_eq_true] at h1 ⊢
      exact fun u hu => h1 u (List.mem_of_mem_take hu))
    rw [run_bind P _ _ w _ () hst]; rfl
  rw [this]
  subst hc
  exact h _ (((H.pick hh1).set (.cells (wr c o (xs.take (min n dl * size))) E0 (0, 0))).unpick hh2)
end steps
end Go.Sl
