/- The engine, sixth part: literals as values, append, copy, calls. -/
import Derived.Test.YtiebmodokjaokabEngE
import Derived.Laws.Append
set_option linter.unusedVariables false
set_option linter.unusedSimpArgs false
namespace Go.Sl
open Go

section steps
variable {P : Program} {ops : Array Oper} {dst : Option Nat} {ty : TypeId} {pos : String} {after : Array Edge} {rest : List Oper} {ρ : Env} {w w0 : World} {K : Env → World → Prop}
variable {L L' L2 : List Asrt} {x y : Operand} {b o E T : Nat} {c : Array Value}

/-- Where the fields of a struct stand. -/
def places (P : Program) (T : Nat) : Option (Array (Nat × Nat)) :=
  match P.underlying T with
  | some (.struct fs) => fs.mapM fun f => (P.info? f.type).map fun i => (f.offset, i.size)
  | _ => none
class TyStruct (P : Program) (T : Nat) (ps : outParam (Array (Nat × Nat))) : Prop where h : places P T = some ps
theorem run_mapM_opt {α β : Type} (f : α → Sem β) (g : α → Option β) (hf : ∀ a b, g a = some b → (f a).run P w = .ok b w) : ∀ (l : List α) (r : List β), l.mapM g = some r → (l.mapM f).run P w = .ok r w
  | [], r, h => by simp at h; subst h; rfl
  | a :: l, r, h => by
    rw [List.mapM_cons] at h
    cases ha : g a with
    | none => rw [ha] at h; simp at h
    | some b =>
      cases hl : l.mapM g with
      | none => rw [ha, hl] at h; simp at h
      | some r' =>
        rw [ha, hl] at h
        simp at h
        subst h
        rw [List.mapM_cons, run_bind P _ _ w w b (hf a b ha), run_bind P _ _ w w r' (run_mapM_opt f g hf l r' hl)]
        rfl
theorem pv_build {n by' : Nat} {z : Value} {ps : Array (Nat × Operand)} {pl : Array (Nat × Nat)} {cs : Array Value} [hs : TyStruct P T pl] [hi : TyI P T n by' z]
    (hf : Instr.fill (pl[·]?) z.cells (partsV ρ ps) = some cs) : PV P (.build T ps) ρ (.agg cs) := by
  intro oo w ho; unfold execOp; rw [ho]; refine op_run_value ?_
  have hp : (ps.map fun p => (p.1, ev ρ p.2)).toList = partsV ρ ps := by simp [partsV]
  have h := hs.h
  unfold places at h
  split at h
  · rename_i fs hfs
    unfold Instr.build
    rw [run_bind P _ _ w w _ (run_zero hi), run_bind P _ _ w w _ (run_under hfs)]
    simp only []
    have hm : (fs.mapM fun f => do pure (f.offset, ← sizeOf f.type) : Sem _).run P w = .ok pl w := by
      rw [Array.mapM_eq_mapM_toList] at h ⊢
      cases hl : fs.toList.mapM (fun f => (P.info? f.type).map fun i => (f.offset, i.size)) with
      | none => rw [hl] at h; simp at h
      | some r =>
        rw [hl] at h
        simp at h
        subst h
        have := run_mapM_opt (P := P) (w := w) (fun f : Field => (do pure (f.offset, ← sizeOf f.type) : Sem (Nat × Nat))) (fun f => (P.info? f.type).map fun i => (f.offset, i.size)) (by
          intro f r hr
          cases hi : P.info? f.type with
          | none => rw [hi] at hr; cases hr
          | some i =>
            rw [hi] at hr
            simp only [Option.map_some, Option.some.injEq] at hr
            subst hr
            have : (sizeOf f.type).run P w = .ok i.size w := by
              show (typeInfo f.type >>= fun i => pure i.size).run P w = _
              rw [run_bind P _ _ w w i (run_tinfo hi)]; rfl
            rw [run_bind P _ _ w w _ this]; rfl) _ _ hl
        rw [map_eq_pure_bind, run_bind P _ _ w w _ this]; rfl
    rw [run_bind P _ _ w w _ hm, hp, hf]
    rfl
  · cases h
theorem pv_build_arr {n by' m m' by2 : Nat} {z z2 : Value} {ps : Array (Nat × Operand)} {cs : Array Value} [hs : TyArr P T m E] [hi : TyI P T n by' z] [he : TyI P E m' by2 z2]
    (hf : Instr.fill (fun i => some (i * m', m')) z.cells (partsV ρ ps) = some cs) : PV P (.build T ps) ρ (.agg cs) := by
  intro oo w ho; unfold execOp; rw [ho]; refine op_run_value ?_
  have hp : (ps.map fun p => (p.1, ev ρ p.2)).toList = partsV ρ ps := by simp [partsV]
  unfold Instr.build
  rw [run_bind P _ _ w w _ (run_zero hi), run_bind P _ _ w w _ (run_under hs.h)]
  simp only []
  rw [run_bind P _ _ w w _ (run_size he), hp, hf]
  rfl

/-- A slice that nobody else writes: its first n elements are the cells xs. -/
def own (E size : Nat) (v : Value) (n : Nat) (xs : List Value) : Asrt :=
  ⟨fun h => xs.length = n * size ∧ ((v = .slice none 0 0 ∧ n = 0) ∨
    ∃ g cap cur, v = .slice (some ⟨g, 0, none⟩) n cap ∧ h g = some (.cells cur E (0, 0)) ∧ n ≤ cap ∧ cap ≤ 9223372036854775807 ∧ cur.size = cap * size ∧ cur.toList.take (n * size) = xs)⟩
theorem St.own_get {size n : Nat} {v : Value} {xs : List Value} (H : St w0 w (own E size v n xs :: L)) :
    (v = .slice none 0 0 ∧ n = 0 ∧ xs = [] ∧ St w0 w L) ∨ ∃ g cap cur, v = .slice (some ⟨g, 0, none⟩) n cap ∧ n ≤ cap ∧ cap ≤ 9223372036854775807 ∧ cur.size = cap * size ∧ cur.toList.take (n * size) = xs ∧ xs.length = n * size ∧ St w0 w (cl g cur E :: L) := by
  obtain ⟨h1, h2, ⟨hl, a⟩, s, d, e, f⟩ := H.sat
  rcases a with ⟨rfl, rfl⟩ | ⟨g, cap, cur, rfl, hg, h3, h4, h5, h6⟩
  · left; exact ⟨rfl, rfl, by simpa using hl, H.drop⟩
  · right; exact ⟨g, cap, cur, rfl, h3, h4, h5, h6, hl, H.os, H.tape, H.output, H.size, h1, h2, hg, s, d, e, f⟩
theorem St.own_nil (H : St w0 w L) (E size : Nat) : St w0 w (own E size (.slice none 0 0) 0 [] :: L) :=
  H.imp fun h hs => ⟨fun _ => none, h, ⟨by simp, .inl ⟨rfl, rfl⟩⟩, hs, Frag.none_disj _, Frag.none_sub _, Frag.sub_refl _⟩
theorem St.own_mk {size n cap g : Nat} {cur : Array Value} {xs : List Value} (H : St w0 w (cl g cur E :: L)) (h1 : n ≤ cap) (h2 : cap ≤ 9223372036854775807) (h3 : cur.size = cap * size) (h4 : cur.toList.take (n * size) = xs) :
    St w0 w (own E size (.slice (some ⟨g, 0, none⟩) n cap) n xs :: L) :=
  H.head fun h hg => ⟨by rw [← h4, List.length_take, Array.length_toList, h3]; exact Nat.min_eq_left (Nat.mul_le_mul_right _ h1), .inr ⟨g, cap, cur, rfl, hg, h1, h2, h3, h4⟩⟩
/-- A whole made block. -/
theorem St.own_full {size n g : Nat} {cur : Array Value} (H : St w0 w (cl g cur E :: L)) (h2 : n ≤ 9223372036854775807) (h3 : cur.size = n * size) :
    St w0 w (own E size (.slice (some ⟨g, 0, none⟩) n n) n cur.toList :: L) :=
  H.own_mk (Nat.le_refl _) h2 h3 (by rw [← h3, ← Array.length_toList, List.take_length])

theorem wr_toList (vs : List Value) (c : Array Value) (o : Nat) (h : o + vs.length ≤ c.size) : (wr c o vs).toList = c.toList.take o ++ vs ++ c.toList.drop (o + vs.length) := by
  apply List.ext_getElem?
  intro k
  rw [Array.getElem?_toList, wr_get _ _ _ _ h, List.append_assoc, List.getElem?_append, List.getElem?_append]
  simp only [List.length_take, Array.length_toList, Nat.min_eq_left (show o ≤ c.size by omega)]
  by_cases h1 : k < o
  · rw [if_neg (by omega), if_pos h1, List.getElem?_take_of_lt h1]; simp
  · rw [if_neg h1]
    by_cases h2 : k - o < vs.length
    · rw [if_pos (by omega), if_pos h2]
    · rw [if_neg (by omega), if_neg h2, List.getElem?_drop, show o + vs.length + (k - o - vs.length) = k from by omega]; simp

theorem size_zeroC (z : Array Value) (n : Nat) : (Builtin.zeroCells z n).size = n * z.size := by simp [Builtin.zeroCells]
theorem run_append_room {size by' n m T' g cap : Nat} {z xv : Value} {news : List Value} {cur : Array Value} {E2 : Nat} [hs : TySlice P T E] [hi : TyI P E size by' z]
    (hd : P.underlying T' = some (.slice E2))
    (hn : (Builtin.lenOf xv).run P w = .ok m w) (hr : (Builtin.firstCells size m xv).run P w = .ok news.toArray w)
    (hl : news.length = m * size) (h1 : news.all oneC = true) (hroom : n + m ≤ cap) (hg : w.heap[g]? = some (.cells cur E (0, 0))) (hsz : cur.size = cap * size) :
    (Builtin.append_ #[T, T'] ty #[.slice (some ⟨g, 0, none⟩) n cap, xv]).run P w = .ok (.slice (some ⟨g, 0, none⟩) (n + m) cap) { w with heap := w.heap.setIfInBounds g (.cells (wr cur (n * size) news) E (0, 0)) } := by
  have hfit : n * size + news.length ≤ cur.size := by rw [hl, hsz, ← Nat.add_mul]; exact Nat.mul_le_mul_right _ hroom
  simp only [Builtin.append_, List.getElem?_toArray, List.getElem?_cons_zero, List.getElem?_cons_succ]
  rw [run_bind P _ _ w w _ (run_under hs.h)]
  simp only []
  rw [run_bind P _ _ w w _ (run_size hi), run_bind P _ _ w w _ (run_under hd), pure_bind]
  simp only [Bool.false_eq_true, if_false, Bool.not_false, if_true]
  rw [run_bind P _ _ w w _ hn, if_pos hroom, run_bind P _ _ w w _ hr]
  simp only [addr_add]
  have := run_storeCells (P := P) news hg (0 + n * size) 0 (by omega) h1
  rw [run_bind P _ _ w _ () this]
  simp only [Nat.zero_add, Nat.add_zero]
  rfl
theorem run_append_grow {size by' n m T' cap : Nat} {z xv : Value} {a : Option Addr} {xs news : List Value} {E2 : Nat} [hs : TySlice P T E] [hi : TyI P E size by' z]
    (hd : P.underlying T' = some (.slice E2))
    (hn : (Builtin.lenOf xv).run P w = .ok m w) (hr : ∀ d, (Builtin.firstCells size m xv).run P { w with drawn := d } = .ok news.toArray { w with drawn := d })
    (ho : ∀ d, (Builtin.firstCells size n (.slice a n cap)).run P { w with drawn := d } = .ok xs.toArray { w with drawn := d })
    (hby : by' ≠ 0) (hgrow : cap < n + m) (hb : (n + m) * by' ≤ 140737488355328) :
    ∃ c' dr, n + m ≤ c' ∧ c' ≤ 9223372036854775807 ∧ (Builtin.append_ #[T, T'] ty #[.slice a n cap, xv]).run P w = .ok (.slice (some ⟨w.heap.size, 0, none⟩) (n + m) c') { w with drawn := dr, heap := w.heap.push (.cells (xs.toArray ++ news.toArray ++ Builtin.zeroCells z.cells (c' - (n + m))) E (0, 0)) } := by
  obtain ⟨ti, hti, htsz, htby, htz⟩ := hi.out
  have h63 : n + m ≤ 140737488355328 := Nat.le_trans (Nat.le_mul_of_pos_right _ (Nat.pos_of_ne_zero hby)) hb
  refine ⟨(n + m) + w.tape w.drawn (.appendCap (n + m) cap E) % (2 ^ 63 - (n + m)), w.drawn + 1, by omega, ?_, ?_⟩
  · have : w.tape w.drawn (.appendCap (n + m) cap E) % (2 ^ 63 - (n + m)) < 2 ^ 63 - (n + m) := Nat.mod_lt _ (by omega)
    omega
  simp only [Builtin.append_, List.getElem?_toArray, List.getElem?_cons_zero, List.getElem?_cons_succ]
  rw [run_bind P _ _ w w _ (run_under hs.h)]
  simp only []
  rw [run_bind P _ _ w w _ (run_size hi), run_bind P _ _ w w _ (run_under hd), pure_bind]
  simp only [Bool.false_eq_true, if_false, Bool.not_false, if_true]
  rw [run_bind P _ _ w w _ hn, if_neg (by omega), run_bind P _ _ w w _ (run_tinfo hti), htby]
  rw [if_neg (by simp [hby]), run_bind P _ _ w w _ (run_tinfo hti), htby]
  have hfit := growslice_fits (old := cap) (need := n + m) (bytes := by') hgrow hb
  rw [if_neg (by have : (2 : Nat) ^ 48 = 281474976710656 := by decide
                 omega)]
  have hch : (choose (.appendCap (n + m) cap E)).run P w = .ok ((n + m) + w.tape w.drawn (.appendCap (n + m) cap E) % (2 ^ 63 - (n + m))) { w with drawn := w.drawn + 1 } := rfl
  rw [run_bind P _ _ w _ _ hch, run_bind P _ _ _ _ _ (run_tinfo hti), htby, run_bind P _ _ _ _ _ (run_askRoom _), run_bind P _ _ _ _ _ (ho _), run_bind P _ _ _ _ _ (hr _), run_bind P _ _ _ _ _ (run_zero hi)]
  rfl
/-- append of the cells that x holds. -/
theorem run_append {size by' n m T' : Nat} {z v xv : Value} {xs news : List Value} {E2 : Nat} [hs : TySlice P T E] [hi : TyI P E size by' z]
    (hd : P.underlying T' = some (.slice E2)) (hz : z.cells.size = size)
    (hn : (Builtin.lenOf xv).run P w = .ok m w) (hr : ∀ d, (Builtin.firstCells size m xv).run P { w with drawn := d } = .ok news.toArray { w with drawn := d })
    (hl : news.length = m * size) (h1 : news.all oneC = true) (hby : by' ≠ 0) (hb : (n + m) * by' ≤ 140737488355328)
    (H : St w0 w (own E size v n xs :: L)) :
    ∃ a' cap' w', (Builtin.append_ #[T, T'] ty #[v, xv]).run P w = .ok (.slice a' (n + m) cap') w' ∧ St w0 w' (own E size (.slice a' (n + m) cap') (n + m) (xs ++ news) :: L) := by
  have key : ∀ (cap : Nat) (a : Option Addr) (Hl : St w0 w L) (hxl : xs.length = n * size) (ho : ∀ d, (Builtin.firstCells size n (.slice a n cap)).run P { w with drawn := d } = .ok xs.toArray { w with drawn := d }) (hgrow : cap < n + m),
      ∃ a' cap' w', (Builtin.append_ #[T, T'] ty #[.slice a n cap, xv]).run P w = .ok (.slice a' (n + m) cap') w' ∧ St w0 w' (own E size (.slice a' (n + m) cap') (n + m) (xs ++ news) :: L) := by
    intro cap a Hl hxl ho hgrow
    obtain ⟨c', dr, hc1, hc2, hrun⟩ := run_append_grow (ty := ty) (T := T) (E := E) (z := z) hd hn hr ho hby hgrow hb
    refine ⟨_, _, _, hrun, ?_⟩
    have Hn := Hl.alloc (.cells (xs.toArray ++ news.toArray ++ Builtin.zeroCells z.cells (c' - (n + m))) E (0, 0))
    refine St.own_mk (cur := xs.toArray ++ news.toArray ++ Builtin.zeroCells z.cells (c' - (n + m))) ⟨Hn.os, Hn.tape, Hn.output, Hn.size, Hn.sat⟩ hc1 hc2 ?_ ?_
    · simp only [Array.size_append, size_zeroC, hz, List.size_toArray, hxl, hl]
      rw [← Nat.add_mul, ← Nat.add_mul]; congr 1; omega
    · simp only [Array.toList_append]
      rw [List.take_append_of_le_length (by simp [hxl, hl, Nat.add_mul]), List.take_of_length_le (by simp [hxl, hl, Nat.add_mul])]
  rcases H.own_get with ⟨rfl, rfl, rfl, Hl⟩ | ⟨g, cap, cur, rfl, h2, h3, h4, h5, h6, Hl⟩
  · by_cases hm : m = 0
    · subst hm
      have hnil : news = [] := by simpa using hl
      subst hnil
      refine ⟨none, 0, w, ?_, by simpa using H⟩
      simp only [Builtin.append_, List.getElem?_toArray, List.getElem?_cons_zero, List.getElem?_cons_succ]
      rw [run_bind P _ _ w w _ (run_under hs.h)]
      simp only []
      rw [run_bind P _ _ w w _ (run_size hi), run_bind P _ _ w w _ (run_under hd), pure_bind]
      simp only [Bool.false_eq_true, if_false, Bool.not_false, if_true]
      rw [run_bind P _ _ w w _ hn, if_pos (by omega), run_bind P _ _ w w _ (hr w.drawn)]
      rfl
    · exact key 0 none Hl (by simp) (fun d => rfl) (by omega)
  · by_cases hroom : n + m ≤ cap
    · refine ⟨_, _, _, run_append_room (ty := ty) hd hn (hr w.drawn) hl h1 hroom Hl.cl_get h4, ?_⟩
      have Hn := Hl.set (.cells (wr cur (n * size) news) E (0, 0))
      have hfit : n * size + news.length ≤ cur.size := by rw [hl, h4, ← Nat.add_mul]; exact Nat.mul_le_mul_right _ hroom
      refine St.own_mk (cur := wr cur (n * size) news) Hn hroom h3 (by rw [wr_size, h4]) ?_
      rw [wr_toList _ _ _ hfit, h5, List.take_append_of_le_length (by simp [h6, hl, Nat.add_mul]), List.take_of_length_le (by simp [h6, hl, Nat.add_mul])]
    · refine key cap (some ⟨g, 0, none⟩) Hl.drop h6 (fun d => ?_) (by omega)
      have hg : ({ w with drawn := d } : World).heap[g]? = some (.cells cur E (0, 0)) := Hl.cl_get
      show (loadCells ⟨g, 0, none⟩ (n * size)).run P _ = _
      rw [run_loadCells hg 0 (n * size) (by rw [h4]; have := Nat.mul_le_mul_right size h2; omega)]
      congr 1
      apply Array.ext'
      rw [Array.toList_extract]
      simp [List.extract, h5]

/-- What a slice value's first cells are. -/
theorem first_cl {xb xo m size k : Nat} {cx : Array Value} {news : List Value} (hb : w.heap[xb]? = some (.cells cx E (0, 0))) (hn : (cx.extract xo (xo + m * size)).toList = news) (hle : xo + m * size ≤ cx.size) :
    ∀ d, (Builtin.firstCells size m (.slice (some ⟨xb, xo, none⟩) m k)).run P { w with drawn := d } = .ok news.toArray { w with drawn := d } := by
  intro d
  have hg : ({ w with drawn := d } : World).heap[xb]? = some (.cells cx E (0, 0)) := hb
  show (loadCells ⟨xb, xo, none⟩ (m * size)).run P _ = _
  rw [run_loadCells hg xo (m * size) hle, ← hn]

/-- append(s, v): one element, out of a block that the literal made. -/
theorem d_append {size by' n m T' k xb xo E' : Nat} {z v : Value} {xs news : List Value} {cx : Array Value} {L0 : List Asrt} [hs : TySlice P T E] [hi : TyI P E size by' z] [ht : TySlice P T' E']
    (H : St w0 w L) (hx : ev ρ x = v) (hy : ev ρ y = .slice (some ⟨xb, xo, none⟩) m k) (hm : Has L (cl xb cx E') L0) (hm2 : Has L (own E size v n xs) L')
    (hle : xo + m * size ≤ cx.size) (hnews : (cx.extract xo (xo + m * size)).toList = news) (h1 : news.all oneC = true) (hby : by' ≠ 0) (hb : (n + m) * by' ≤ 140737488355328)
    (h : ∀ a' c' w', St w0 w' (own E size (.slice a' (n + m) c') (n + m) (xs ++ news) :: L') → denOps P ops rest (put ρ dst (.slice a' (n + m) c')) w' K) :
    denOps P ops (⟨dst, .call { callee := .builtin .append, args := #[x, y], argTypes := #[T, T'] }, ty, pos, after, none⟩ :: rest) ρ w K := by
  refine d_op ?_
  obtain ⟨a', c', w', hr, H'⟩ := run_append (P := P) (T := T) (E := E) (ty := ty) (xv := .slice (some ⟨xb, xo, none⟩) m k) ht.h hi.zs rfl (first_cl (H.pick hm).cl_get hnews hle) (by rw [← hnews]; simp; omega) h1 hby hb (H.pick hm2)
  have : (execOp (ev ρ) ⟨dst, .call { callee := .builtin .append, args := #[x, y], argTypes := #[T, T'] }, ty, pos, after, none⟩).run P w = .ok (.value (.slice a' (n + m) c')) w' := by
    refine op_run_value ?_
    simp only [List.map_toArray, List.map_cons, List.map_nil, hx, hy]
    exact hr
  rw [this]
  exact h _ _ _ H'

-- calls
def argL (ρ : Env) (fi : Array Value) (as : Array Operand) (ca : Array Value) : List Value := fi.toList ++ as.toList.map (ev ρ) ++ ca.toList
def callable (P : Program) (F : FuncId) : Bool :=
  match P.funcs[F]? with
  | some fn => fn.name != "runtime.NumGoroutine" && fn.body.isSome
  | none => false
theorem d_call {F : FuncId} {f : Operand} {as : Array Operand} {ts : Array TypeId} {fi ca : Array Value} {vs : List Value} {R : Value → World → Prop} (hf : ev ρ f = .func (.func F) fi ca) (hb : callable P F = true)
    (hc : Calls P F vs.toArray w (Ret R)) (ha : argL ρ fi as ca = vs) (k : ∀ v w', R v w' → denOps P ops rest (put ρ dst v) w' K) :
    denOps P ops (⟨dst, .call { callee := .value f, args := as, argTypes := ts }, ty, pos, after, none⟩ :: rest) ρ w K := by
  refine d_op ?_
  subst ha
  have : (execOp (ev ρ) ⟨dst, .call { callee := .value f, args := as, argTypes := ts }, ty, pos, after, none⟩).run P w = .ok (.enter F (argL ρ fi as ca).toArray) w := by
    unfold execOp
    simp only [resolve, hf, Deferred.ofValue, pure_bind, invoke]
    unfold callFunc
    unfold callable at hb
    show ((program >>= _) : Sem Next).run P w = _
    rw [run_bind P _ _ w w P rfl]
    split at hb
    · rename_i fn hfn
      simp only [hfn]
      simp only [Bool.and_eq_true, bne_iff_ne, ne_eq, Option.isSome_iff_ne_none] at hb
      rw [if_neg (by simp [hb.1]), if_neg (by simp [hb.2])]
      have : fi ++ Array.map (ev ρ) as ++ ca = (argL ρ fi as ca).toArray := by
        apply Array.ext'
        simp [argL]
      rw [this]; rfl
    · cases hb
  rw [this]
  exact Calls.mono hc (Ret.mono fun v w' hq => k v w' hq)
end steps
end Go.Sl
