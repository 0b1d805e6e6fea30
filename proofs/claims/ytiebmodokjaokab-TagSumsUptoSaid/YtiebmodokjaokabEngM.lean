/- The engine: maps keyed by int. -/
import Derived.Test.YtiebmodokjaokabEngH
set_option linter.unusedVariables false
set_option linter.unusedSimpArgs false
namespace Go.Sl
open Go

abbrev Ent := Int × Value × Nat
def ent (e : Ent) : MapEntry := { key := .int .i64 e.1, val := e.2.1, born := e.2.2 }
def mapE (es : List Ent) : Array MapEntry := (es.map ent).toArray
def esGet : List Ent → Int → Option Value
  | [], _ => none
  | e :: r, k => if e.1 = k then some e.2.1 else esGet r k
def esSet : List Ent → Int → Value → Nat → List Ent
  | [], k, v, c => [(k, v, c)]
  | e :: r, k, v, c => if e.1 = k then (k, v, e.2.2) :: r else e :: esSet r k v c
def esClock (es : List Ent) (k : Int) (c : Nat) : Nat := if (esGet es k).isSome then c else c + 1
def esDel : List Ent → Int → List Ent
  | [], _ => []
  | e :: r, k => if e.1 = k then r else e :: esDel r k
def esIdx : List Ent → Int → Nat
  | [], _ => 0
  | e :: r, k => if e.1 = k then 0 else esIdx r k + 1

theorem find_spec (k : Int) : ∀ (es : List Ent) (i : Nat), Instr.findNow (.int .i64) (.int .i64 k) (es.map ent) i = some ((esGet es k).map fun v => (i + esIdx es k, v))
  | [], i => rfl
  | e :: r, i => by
    show (match Instr.sameNow (.int .i64) (.int .i64 k) (.int .i64 e.1) with
      | some true => some (some (i, e.2.1))
      | some false => Instr.findNow (.int .i64) (.int .i64 k) (r.map ent) (i + 1)
      | none => none) = _
    have hs : Instr.sameNow (.int .i64) (.int .i64 k) (.int .i64 e.1) = some (k == e.1) := rfl
    rw [hs]
    by_cases h : e.1 = k
    · have : (k == e.1) = true := by simp [h]
      simp only [this, esGet, esIdx, if_pos h]; simp
    · have : (k == e.1) = false := by simp; exact fun e' => h e'.symm
      simp only [this, esGet, esIdx, if_neg h]
      rw [find_spec k r (i + 1)]
      congr 1
      cases esGet r k with
      | none => rfl
      | some v => simp; omega
theorem esIdx_lt {es : List Ent} {k : Int} {v : Value} (h : esGet es k = some v) : esIdx es k < es.length := by
  induction es with
  | nil => cases h
  | cons e r ih =>
    unfold esGet at h; unfold esIdx
    split
    · simp
    · rename_i hne; rw [if_neg hne] at h; have := ih h; simp; omega
theorem esSet_some {es : List Ent} {k : Int} {v u : Value} {c : Nat} (h : esGet es k = some u) :
    (mapE es).modify (esIdx es k) (fun e => { e with key := .int .i64 k, val := v }) = mapE (esSet es k v c) ∧ ((mapE es)[esIdx es k]?).map (·.key) = some (.int .i64 k) := by
  unfold mapE
  simp only [List.getElem?_toArray, List.modify_toArray]
  induction es with
  | nil => cases h
  | cons e r ih =>
    unfold esGet at h
    by_cases hk : e.1 = k
    · simp only [esIdx, esSet, if_pos hk, List.map_cons]
      refine ⟨?_, by simp [ent, hk]⟩
      congr 1
    · rw [if_neg hk] at h
      obtain ⟨h1, h2⟩ := ih h
      simp only [esIdx, esSet, if_neg hk, List.map_cons, List.modify_succ_cons, List.getElem?_cons_succ]
      refine ⟨?_, h2⟩
      have h1 := congrArg Array.toList h1
      simp only [List.toList_toArray] at h1
      rw [h1]
theorem esSet_none {es : List Ent} {k : Int} {v : Value} {c : Nat} (h : esGet es k = none) : (mapE es).push { key := .int .i64 k, val := v, born := c } = mapE (esSet es k v c) := by
  unfold mapE
  simp only [List.push_toArray]
  congr 1
  induction es with
  | nil => rfl
  | cons e r ih =>
    unfold esGet at h
    by_cases hk : e.1 = k
    · rw [if_pos hk] at h; cases h
    · rw [if_neg hk] at h
      simp only [esSet, if_neg hk, List.map_cons, List.cons_append]
      rw [ih h]
theorem esDel_some {es : List Ent} {k : Int} {u : Value} (h : esGet es k = some u) : (mapE es).eraseIdxIfInBounds (esIdx es k) = mapE (esDel es k) := by
  have hlt := esIdx_lt h
  unfold mapE
  rw [Array.eraseIdxIfInBounds, dif_pos (by simpa using hlt)]
  apply Array.ext'
  simp only [Array.toList_eraseIdx, List.toList_toArray]
  induction es with
  | nil => cases h
  | cons e r ih =>
    unfold esGet at h
    by_cases hk : e.1 = k
    · simp only [esIdx, esDel, if_pos hk, List.map_cons, List.eraseIdx_cons_zero]
    · rw [if_neg hk] at h
      simp only [esIdx, esDel, if_neg hk, List.map_cons, List.eraseIdx_cons_succ]
      rw [ih h (esIdx_lt h)]
theorem esDel_none {es : List Ent} {k : Int} (h : esGet es k = none) : esDel es k = es := by
  induction es with
  | nil => rfl
  | cons e r ih =>
    unfold esGet at h
    by_cases hk : e.1 = k
    · rw [if_pos hk] at h; cases h
    · rw [if_neg hk] at h; simp only [esDel, if_neg hk]; rw [ih h]

section run
variable {P : Program} {w : World} {T Kt E b clock : Nat} {es : List Ent} {k : Int}
theorem run_getMap (hb : w.heap[b]? = some (.map (mapE es) clock)) : (getObj b).run P w = .ok (.map (mapE es) clock) w := by
  show (Sem.getObj _ _).run P w = _
  simp only [Sem.run, hb]
theorem run_setObj {o o' : Obj} (hb : w.heap[b]? = some (.map (mapE es) clock)) : (setObj b o').run P w = .ok () { w with heap := w.heap.setIfInBounds b o' } := by
  show (Sem.setObj _ _ _).run P w = _
  simp only [Sem.run, hb]
theorem run_checkKey [hk : TyInt P Kt .i64] (e : Bool) : (Instr.checkKey e 10000 Kt (.int .i64 k)).run P w = .ok () w := by
  unfold Instr.checkKey
  rw [run_bind P _ _ w w _ (run_under hk.h)]; rfl
theorem run_findKey [hk : TyInt P Kt .i64] : (Instr.findKey Kt (.int .i64 k) (mapE es).toList).run P w = .ok ((esGet es k).map fun v => (esIdx es k, v)) w := by
  unfold Instr.findKey
  rw [run_bind P _ _ w w _ (run_under hk.h)]
  have := find_spec k es 0
  simp only [Nat.zero_add] at this
  simp only [mapE, List.toList_toArray, this]; rfl
theorem run_lookup {n by' : Nat} {z : Value} [hm : TyMap P T Kt E] [hk : TyInt P Kt .i64] [hz : TyI P E n by' z] (hb : w.heap[b]? = some (.map (mapE es) clock)) :
    (Instr.lookup T (.map (some b)) (.int .i64 k) false).run P w = .ok ((esGet es k).getD z) w := by
  unfold Instr.lookup
  rw [run_bind P _ _ w w _ (run_under hm.h)]
  simp only []
  rw [run_bind P _ _ w w _ (run_getMap hb)]
  simp only [pure_bind]
  rw [run_bind P _ _ w w _ (run_checkKey _), run_bind P _ _ w w _ run_findKey]
  cases esGet es k with
  | none =>
    simp only [Option.map_none]
    rw [run_bind P _ _ w w _ (run_zero hz)]; rfl
  | some v => rfl
theorem run_lookup2 {n by' : Nat} {z : Value} [hm : TyMap P T Kt E] [hk : TyInt P Kt .i64] [hz : TyI P E n by' z] (hb : w.heap[b]? = some (.map (mapE es) clock)) :
    (Instr.lookup T (.map (some b)) (.int .i64 k) true).run P w = .ok (.tuple #[(esGet es k).getD z, .bool (esGet es k).isSome]) w := by
  unfold Instr.lookup
  rw [run_bind P _ _ w w _ (run_under hm.h)]
  simp only []
  rw [run_bind P _ _ w w _ (run_getMap hb)]
  simp only [pure_bind]
  rw [run_bind P _ _ w w _ (run_checkKey _), run_bind P _ _ w w _ run_findKey]
  cases esGet es k with
  | none =>
    simp only [Option.map_none]
    rw [run_bind P _ _ w w _ (run_zero hz)]; rfl
  | some v => rfl
theorem run_mapUpdate {v : Value} [hm : TyMap P T Kt E] [hk : TyInt P Kt .i64] (hb : w.heap[b]? = some (.map (mapE es) clock)) :
    (Instr.mapUpdate T (.map (some b)) (.int .i64 k) v).run P w = .ok () { w with heap := w.heap.setIfInBounds b (.map (mapE (esSet es k v clock)) (esClock es k clock)) } := by
  unfold Instr.mapUpdate
  rw [run_bind P _ _ w w _ (run_under hm.h)]
  simp only []
  rw [run_bind P _ _ w w _ (run_getMap hb)]
  simp only []
  rw [run_bind P _ _ w w _ (run_checkKey _), run_bind P _ _ w w _ run_findKey]
  cases hg : esGet es k with
  | none =>
    simp only [Option.map_none, esClock, hg]
    rw [esSet_none hg]
    exact run_setObj (o := .map #[] 0) hb
  | some u =>
    simp only [Option.map_some, esClock, hg]
    obtain ⟨h1, h2⟩ := esSet_some (v := v) (c := clock) hg
    rw [h2]
    have hs : (Instr.keyThatStays (.int .i64 k) (.int .i64 k)).run P w = .ok (.int .i64 k) w := by
      unfold Instr.keyThatStays
      rw [show Instr.sameBits 10000 (.int .i64 k) (.int .i64 k) = true from by simp [Instr.sameBits]]; rfl
    simp only [Option.getD_some]
    rw [run_bind P _ _ w w _ hs, h1]
    exact run_setObj (o := .map #[] 0) hb
theorem run_delete {ty : Nat} [hm : TyMap P T Kt E] [hk : TyInt P Kt .i64] {K2 : Nat} (hb : w.heap[b]? = some (.map (mapE es) clock)) :
    (Builtin.delete_ #[T, K2] ty #[.map (some b), .int .i64 k]).run P w = .ok (.tuple #[]) { w with heap := w.heap.setIfInBounds b (.map (mapE (esDel es k)) clock) } := by
  simp only [Builtin.delete_, List.getElem?_toArray, List.getElem?_cons_zero, List.getElem?_cons_succ]
  rw [run_bind P _ _ w w _ (run_under hm.h)]
  simp only []
  rw [run_bind P _ _ w w _ (run_getMap hb)]
  simp only []
  rw [run_bind P _ _ w w _ (run_checkKey _), run_bind P _ _ w w _ run_findKey]
  cases hg : esGet es k with
  | none =>
    simp only [Option.map_none]
    rw [run_bind P _ _ w _ _ (run_setObj (o := .map #[] 0) hb), esDel_none hg]; rfl
  | some u =>
    simp only [Option.map_some]
    rw [run_bind P _ _ w _ _ (run_setObj (o := .map #[] 0) hb), esDel_some hg]; rfl
end run

/-! ## A map that owns what its elements lead to; a key that is not there stands for d. -/
section omap
variable {α : Type} {w0 w : World} {L : List Asrt}
abbrev EntX (α : Type) := Int × Value × Nat × α
def ents (l : List (EntX α)) : List Ent := l.map fun e => (e.1, e.2.1, e.2.2.1)
def xGet : List (EntX α) → Int → Option α
  | [], _ => none
  | e :: r, k => if e.1 = k then some e.2.2.2 else xGet r k
/-- The map's block, and what its elements but those at key k own. -/
def ohole (b : Nat) (A : Value → α → Asrt) (d : α) (f : Int → α) (k : Int) (v : Value) : Asrt :=
  ex fun l : List (EntX α) => ex fun clock : Nat => all (pur ((l.map (·.1)).Nodup ∧ (∀ k', k' ≠ k → f k' = (xGet l k').getD d) ∧ (esGet (ents l) k = some v ∨ (esGet (ents l) k = none ∧ v = .slice none 0 0 ∧ f k = d))) :: pt b (.map (mapE (ents l)) clock) :: (l.filter (·.1 ≠ k)).map fun e => A e.2.1 e.2.2.2)
def omap (b : Nat) (A : Value → α → Asrt) (d : α) (f : Int → α) : Asrt :=
  ex fun l : List (EntX α) => ex fun clock : Nat => all (pur ((l.map (·.1)).Nodup ∧ (∀ k, f k = (xGet l k).getD d)) :: pt b (.map (mapE (ents l)) clock) :: l.map fun e => A e.2.1 e.2.2.2)
def upd (f : Int → α) (k : Int) (x : α) : Int → α := fun k' => if k' = k then x else f k'

theorem xGet_esGet {l : List (EntX α)} {k : Int} : (∃ v x, esGet (ents l) k = some v ∧ xGet l k = some x ∧ ∃ n pre post, l = pre ++ (k, v, n, x) :: post ∧ ∀ e ∈ pre, e.1 ≠ k) ∨ (esGet (ents l) k = none ∧ xGet l k = none ∧ ∀ e ∈ l, e.1 ≠ k) := by
  induction l with
  | nil => right; exact ⟨rfl, rfl, by simp⟩
  | cons e r ih =>
    obtain ⟨k', v, n, x⟩ := e
    by_cases h : k' = k
    · subst h; left; exact ⟨v, x, by simp [ents, esGet], by simp [xGet], n, [], r, rfl, by simp⟩
    · rcases ih with ⟨v', x', h1, h2, n', pre, post, h3, h4⟩ | ⟨h1, h2, h3⟩
      · left
        refine ⟨v', x', ?_, ?_, n', (k', v, n, x) :: pre, post, by rw [h3]; rfl, ?_⟩
        · simpa [ents, esGet, h] using h1
        · simpa [xGet, h] using h2
        · intro e he; rcases List.mem_cons.1 he with rfl | he
          · exact h
          · exact h4 e he
      · right
        refine ⟨by simpa [ents, esGet, h] using h1, by simpa [xGet, h] using h2, ?_⟩
        intro e he; rcases List.mem_cons.1 he with rfl | he
        · exact h
        · exact h3 e he
theorem filter_split {pre post : List (EntX α)} {k : Int} {v : Value} {n : Nat} {x : α} (hn : ((pre ++ (k, v, n, x) :: post).map (·.1)).Nodup) : (pre ++ (k, v, n, x) :: post).filter (·.1 ≠ k) = pre ++ post := by
  simp only [List.map_append, List.map_cons] at hn
  have h1 : ∀ e ∈ pre, e.1 ≠ k := fun e he h => by
    have := (List.nodup_append.1 hn).2.2 e.1 (List.mem_map_of_mem he) k (List.mem_cons_self)
    exact this h
  have h2 : ∀ e ∈ post, e.1 ≠ k := fun e he h => by
    have := (List.nodup_cons.1 (List.nodup_append.1 hn).2.1).1
    exact this (h ▸ List.mem_map_of_mem he)
  rw [List.filter_append, List.filter_cons, if_neg (by simp), List.filter_eq_self.2 (by simpa using h1), List.filter_eq_self.2 (by simpa using h2)]
theorem Has.mid {L1 L2 : List Asrt} {A : Asrt} : Has (L1 ++ A :: L2) A (L1 ++ L2) := by
  induction L1 with
  | nil => exact .here
  | cons B L1 ih => exact .there ih

/-- What lies at a key is taken out. -/
theorem St.omap_open {b : Nat} {A : Value → α → Asrt} {d : α} {f : Int → α} (hd : (A (.slice none 0 0) d).on (fun _ => none)) (H : St w0 w (omap b A d f :: L)) (k : Int) :
    ∃ v, St w0 w (A v (f k) :: ohole b A d f k v :: L) := by
  obtain ⟨l, H⟩ := H.ex_get
  obtain ⟨clock, H⟩ := H.ex_get
  have H := H.all_get
  simp only [List.cons_append] at H
  obtain ⟨hn, hf⟩ := H.pur_get
  have H := H.drop
  rcases xGet_esGet (l := l) (k := k) with ⟨v, x, h1, h2, n, pre, post, h3, h4⟩ | ⟨h1, h2, h3⟩
  · refine ⟨v, ?_⟩
    have hfk : f k = x := by rw [hf k, h2]; rfl
    rw [hfk]
    have hfl : l.filter (·.1 ≠ k) = pre ++ post := by rw [h3]; exact filter_split (h3 ▸ hn)
    have H1 : St w0 w (A v x :: pt b (.map (mapE (ents l)) clock) :: ((pre ++ post).map (fun e => A e.2.1 e.2.2.2) ++ L)) := by
      refine H.pick ?_
      refine .there ?_
      rw [h3]
      simp only [List.map_append, List.map_cons, List.append_assoc, List.cons_append]
      exact Has.mid
    refine (H1.swap.imp fun h => ?_ : St w0 w (A v x :: ohole b A d f k v :: L))
    intro hs
    have hs := hs.swap
    refine hs.imp fun h hs => ?_
    have : SatF (all (pur ((l.map (·.1)).Nodup ∧ (∀ k', k' ≠ k → f k' = (xGet l k').getD d) ∧ (esGet (ents l) k = some v ∨ (esGet (ents l) k = none ∧ v = .slice none 0 0 ∧ f k = d))) :: pt b (.map (mapE (ents l)) clock) :: (l.filter (·.1 ≠ k)).map fun e => A e.2.1 e.2.2.2) :: L) h := by
      refine SatF.app ?_
      rw [hfl]
      exact ⟨fun _ => none, h, ⟨hn, fun k' _ => hf k', .inl h1⟩, hs, Frag.none_disj _, Frag.none_sub _, Frag.sub_refl _⟩
    exact this.head fun _ hh => ⟨l, clock, hh⟩
  · refine ⟨.slice none 0 0, ?_⟩
    have hfk : f k = d := by rw [hf k, h2]; rfl
    rw [hfk]
    have hfl : l.filter (·.1 ≠ k) = l := List.filter_eq_self.2 (by simpa using h3)
    have H1 : St w0 w (ohole b A d f k (.slice none 0 0) :: L) := by
      refine H.imp fun h hs => ?_
      have : SatF (all (pur ((l.map (·.1)).Nodup ∧ (∀ k', k' ≠ k → f k' = (xGet l k').getD d) ∧ (esGet (ents l) k = some (.slice none 0 0) ∨ (esGet (ents l) k = none ∧ Value.slice none 0 0 = .slice none 0 0 ∧ f k = d))) :: pt b (.map (mapE (ents l)) clock) :: (l.filter (·.1 ≠ k)).map fun e => A e.2.1 e.2.2.2) :: L) h := by
        refine SatF.app ?_
        rw [hfl]
        exact ⟨fun _ => none, h, ⟨hn, fun k' _ => hf k', .inr ⟨h1, rfl, hfk⟩⟩, hs, Frag.none_disj _, Frag.none_sub _, Frag.sub_refl _⟩
      exact this.head fun _ hh => ⟨l, clock, hh⟩
    refine H1.imp fun h hs => ?_
    have hon : (A (.slice none 0 0) d).on (fun _ => none) := hd
    exact ⟨fun _ => none, h, hon, hs, Frag.none_disj _, Frag.none_sub _, Frag.sub_refl _⟩
/-- As ohole, the key being there. -/
def oheld (b : Nat) (A : Value → α → Asrt) (d : α) (f : Int → α) (k : Int) (v : Value) : Asrt :=
  ex fun l : List (EntX α) => ex fun clock : Nat => all (pur ((l.map (·.1)).Nodup ∧ (∀ k', k' ≠ k → f k' = (xGet l k').getD d) ∧ esGet (ents l) k = some v) :: pt b (.map (mapE (ents l)) clock) :: (l.filter (·.1 ≠ k)).map fun e => A e.2.1 e.2.2.2)
theorem St.pack {b : Nat} {p : Prop} {o : Obj} {M : List Asrt} (H : St w0 w (pt b o :: (M ++ L))) (hp : p) : St w0 w (all (pur p :: pt b o :: M) :: L) :=
  St.all_mk _ (H.pur_mk hp)

theorem xGet_append {pre post : List (EntX α)} {k : Int} (h : ∀ e ∈ pre, e.1 ≠ k) : xGet (pre ++ post) k = xGet post k := by
  induction pre with
  | nil => rfl
  | cons e r ih => simp only [List.cons_append, xGet]; rw [if_neg (h e (List.mem_cons_self)), ih (fun e he => h e (List.mem_cons_of_mem _ he))]
theorem xGet_other {pre post : List (EntX α)} {k k' : Int} {v v' : Value} {n n' : Nat} {x x' : α} (h : k' ≠ k) : xGet (pre ++ (k, v, n, x) :: post) k' = xGet (pre ++ (k, v', n', x') :: post) k' := by
  induction pre with
  | nil => simp only [List.nil_append, xGet]; rw [if_neg (Ne.symm h), if_neg (Ne.symm h)]
  | cons e r ih => simp only [List.cons_append, xGet]; rw [ih]

theorem St.oheld_close {b : Nat} {A : Value → α → Asrt} {d : α} {f : Int → α} {k : Int} {v : Value} {x : α} (H : St w0 w (A v x :: oheld b A d f k v :: L)) : St w0 w (omap b A d (upd f k x) :: L) := by
  have H := H.swap
  obtain ⟨l, H⟩ := H.ex_get
  obtain ⟨clock, H⟩ := H.ex_get
  have H := H.all_get
  simp only [List.cons_append] at H
  obtain ⟨hn, hf, hg⟩ := H.pur_get
  have H := H.drop
  rcases xGet_esGet (l := l) (k := k) with ⟨v', x', h1, h2, n, pre, post, h3, h4⟩ | ⟨h1, h2, h3⟩
  · rw [hg] at h1; cases h1
    have hfl : l.filter (·.1 ≠ k) = pre ++ post := by rw [h3]; exact filter_split (h3 ▸ hn)
    rw [hfl] at H
    refine St.ex_mk (pre ++ (k, v, n, x) :: post) (St.ex_mk clock ?_)
    have he : ents (pre ++ (k, v, n, x) :: post) = ents l := by rw [h3]; simp [ents]
    rw [he]
    refine St.pack ?_ ⟨by rw [h3] at hn; simpa using hn, fun k' => ?_⟩
    · have hh : Has ((pre ++ (k, v, n, x) :: post).map (fun e => A e.2.1 e.2.2.2) ++ L) (A v x) ((pre ++ post).map (fun e => A e.2.1 e.2.2.2) ++ L) := by
        simp only [List.map_append, List.map_cons, List.append_assoc, List.cons_append]
        exact Has.mid
      have hh2 : Has ((pre ++ post).map (fun e => A e.2.1 e.2.2.2) ++ A v x :: L) (A v x) ((pre ++ post).map (fun e => A e.2.1 e.2.2.2) ++ L) := Has.mid
      exact (H.pick (.there hh2)).unpick (.there hh)
    · unfold upd
      split
      · rename_i e; subst e; rw [xGet_append h4]; simp [xGet]
      · rename_i e; rw [hf k' e, h3, xGet_other e]
  · rw [hg] at h1; cases h1
theorem upd_self {f : Int → α} {k : Int} : upd f k (f k) = f := by
  funext k'; unfold upd; split
  · rename_i e; rw [e]
  · rfl
theorem St.omap_close {b : Nat} {A : Value → α → Asrt} {d : α} {f : Int → α} {k : Int} {v : Value} (H : St w0 w (A v (f k) :: ohole b A d f k v :: L)) : St w0 w (omap b A d f :: L) := by
  have H1 := H.swap
  obtain ⟨l, H2⟩ := H1.ex_get
  obtain ⟨clock, H2⟩ := H2.ex_get
  have H3 := H2.all_get
  simp only [List.cons_append] at H3
  obtain ⟨hn, hf, hg⟩ := H3.pur_get
  rcases hg with hg | ⟨hg, _, hfd⟩
  · have : St w0 w (A v (f k) :: oheld b A d f k v :: L) := by
      refine St.swap ?_
      refine St.ex_mk l (St.ex_mk clock (St.pack H3.drop ⟨hn, hf, hg⟩))
    have := this.oheld_close
    rwa [upd_self] at this
  · rcases xGet_esGet (l := l) (k := k) with ⟨v', x', h1, h2, n, pre, post, h3, h4⟩ | ⟨h1, h2, h3⟩
    · rw [hg] at h1; cases h1
    · have hfl : l.filter (·.1 ≠ k) = l := List.filter_eq_self.2 (by simpa using h3)
      rw [hfl] at H3
      refine St.ex_mk l (St.ex_mk clock (St.pack (?_ : St w0 w (pt b (.map (mapE (ents l)) clock) :: (l.map (fun e => A e.2.1 e.2.2.2) ++ L))) ⟨hn, fun k' => ?_⟩))
      · have hh2 : Has (l.map (fun e => A e.2.1 e.2.2.2) ++ A v (f k) :: L) (A v (f k)) (l.map (fun e => A e.2.1 e.2.2.2) ++ L) := Has.mid
        exact (H3.drop.pick (.there hh2)).drop
      · by_cases e : k' = k
        · subst e; rw [hfd, h2]; rfl
        · exact hf k' e
/-- What the map's block is, at a hole. -/
theorem St.ohole_get {b : Nat} {A : Value → α → Asrt} {d : α} {f : Int → α} {k : Int} {v : Value} (H : St w0 w (ohole b A d f k v :: L)) : ∃ es clock, w.heap[b]? = some (.map (mapE es) clock) ∧ (esGet es k).getD (.slice none 0 0) = v := by
  obtain ⟨l, H⟩ := H.ex_get
  obtain ⟨clock, H⟩ := H.ex_get
  have H := H.all_get
  simp only [List.cons_append] at H
  obtain ⟨hn, hf, hg⟩ := H.pur_get
  refine ⟨ents l, clock, H.drop.pt_get, ?_⟩
  rcases hg with hg | ⟨hg, hv, _⟩
  · rw [hg]; rfl
  · rw [hg, hv]; rfl
theorem esGet_set {es : List Ent} {k : Int} {v : Value} {c : Nat} : esGet (esSet es k v c) k = some v := by
  induction es with
  | nil => simp [esSet, esGet]
  | cons e r ih =>
    unfold esSet; split
    · simp [esGet]
    · rename_i h; simp only [esGet, if_neg h]; exact ih
theorem esSet_mid {pre post : List (EntX α)} {k : Int} {v v' : Value} {n clock : Nat} {x : α} (h4 : ∀ e ∈ pre, e.1 ≠ k) : esSet (ents (pre ++ (k, v, n, x) :: post)) k v' clock = ents (pre ++ (k, v', n, x) :: post) := by
  induction pre with
  | nil => simp [ents, esSet]
  | cons e r ih =>
    have hne := h4 e List.mem_cons_self
    have ih := ih (fun e he => h4 e (List.mem_cons_of_mem _ he))
    simp only [ents, List.map_append, List.map_cons, List.cons_append, esSet, if_neg hne] at ih ⊢
    rw [ih]
theorem esSet_app {l : List (EntX α)} {k : Int} {v' : Value} {clock : Nat} {d : α} (h3 : ∀ e ∈ l, e.1 ≠ k) : esSet (ents l) k v' clock = ents (l ++ [(k, v', clock, d)]) := by
  induction l with
  | nil => simp [ents, esSet]
  | cons e r ih =>
    have hne := h3 e List.mem_cons_self
    have ih := ih (fun e he => h3 e (List.mem_cons_of_mem _ he))
    simp only [ents, List.map_append, List.map_cons, List.map_nil, List.cons_append, esSet, if_neg hne] at ih ⊢
    rw [ih]
theorem xGet_app_other {l : List (EntX α)} {k k' : Int} {v' : Value} {clock : Nat} {d : α} (hk' : k' ≠ k) : xGet l k' = xGet (l ++ [(k, v', clock, d)]) k' := by
  induction l with
  | nil => simp [xGet, Ne.symm hk']
  | cons e r ih => simp only [List.cons_append, xGet]; rw [ih]
theorem esDel_ents {l : List (EntX α)} {k : Int} (hn : (l.map (·.1)).Nodup) : esDel (ents l) k = ents (l.filter (·.1 ≠ k)) := by
  induction l with
  | nil => rfl
  | cons e r ih =>
    simp only [List.map_cons, List.nodup_cons] at hn
    by_cases hk : e.1 = k
    · have : r.filter (·.1 ≠ k) = r := List.filter_eq_self.2 (by
        intro e' he'
        simp only [ne_eq, decide_not, Bool.not_eq_true', decide_eq_false_iff_not]
        intro h; exact hn.1 (List.mem_map.2 ⟨e', he', by rw [h, hk]⟩))
      rw [List.filter_cons, if_neg (by simp [hk]), this]
      simp [ents, esDel, hk]
    · rw [List.filter_cons, if_pos (by simp [hk])]
      have ih := ih hn.2
      simp only [ents, List.map_cons, esDel, if_neg hk] at ih ⊢
      rw [ih]
theorem xGet_filter {l : List (EntX α)} {k k' : Int} : xGet (l.filter (·.1 ≠ k)) k' = if k' = k then none else xGet l k' := by
  induction l with
  | nil => simp [xGet]
  | cons e r ih =>
    rw [List.filter_cons]
    by_cases hk : e.1 = k
    · rw [if_neg (by simp [hk]), ih]
      split
      · rfl
      · rename_i h; simp only [xGet]; rw [if_neg (fun h' => h (by rw [← h', hk]))]
    · rw [if_pos (by simp [hk])]
      simp only [xGet]; rw [ih]
      by_cases h1 : e.1 = k'
      · subst h1; rw [if_pos rfl, if_neg hk, if_pos rfl]
      · rw [if_neg h1, if_neg h1]
theorem St.ohole_update {b : Nat} {A : Value → α → Asrt} {d : α} {f : Int → α} {k : Int} {v : Value} (v' : Value) (H : St w0 w (ohole b A d f k v :: L)) :
    ∃ es clock, w.heap[b]? = some (.map (mapE es) clock) ∧ St w0 { w with heap := w.heap.setIfInBounds b (.map (mapE (esSet es k v' clock)) (esClock es k clock)) } (oheld b A d f k v' :: L) := by
  obtain ⟨l, H⟩ := H.ex_get
  obtain ⟨clock, H⟩ := H.ex_get
  have H := H.all_get
  simp only [List.cons_append] at H
  obtain ⟨hn, hf, hg⟩ := H.pur_get
  refine ⟨ents l, clock, H.drop.pt_get, ?_⟩
  have Hw := H.drop.set (.map (mapE (esSet (ents l) k v' clock)) (esClock (ents l) k clock))
  rcases xGet_esGet (l := l) (k := k) with ⟨u, x', h1, h2, n, pre, post, h3, h4⟩ | ⟨h1, h2, h3⟩
  · refine St.ex_mk (pre ++ (k, v', n, x') :: post) (St.ex_mk (esClock (ents l) k clock) ?_)
    have hfl : l.filter (·.1 ≠ k) = pre ++ post := by rw [h3]; exact filter_split (h3 ▸ hn)
    have hn' : ((pre ++ (k, v', n, x') :: post).map (·.1)).Nodup := by rw [h3] at hn; simpa using hn
    have hfl' : (pre ++ (k, v', n, x') :: post).filter (·.1 ≠ k) = pre ++ post := filter_split hn'
    have he : esSet (ents l) k v' clock = ents (pre ++ (k, v', n, x') :: post) := by rw [h3]; exact esSet_mid h4
    rw [he] at Hw
    rw [hfl', ← he, he, ← hfl]
    refine St.pack Hw ⟨hn', fun k' hk' => ?_, by rw [← he]; exact esGet_set⟩
    rw [hf k' hk', h3, xGet_other hk']
  · refine St.ex_mk (l ++ [(k, v', clock, d)]) (St.ex_mk (esClock (ents l) k clock) ?_)
    have hn' : ((l ++ [(k, v', clock, d)]).map (·.1)).Nodup := by
      rw [List.map_append, List.nodup_append]
      refine ⟨hn, by simp, ?_⟩
      intro a ha b hb e
      simp at hb; subst hb
      obtain ⟨e', he', rfl⟩ := List.mem_map.1 ha
      exact h3 e' he' e
    have hfl' : (l ++ [(k, v', clock, d)]).filter (·.1 ≠ k) = l.filter (·.1 ≠ k) := by simp
    have he : esSet (ents l) k v' clock = ents (l ++ [(k, v', clock, d)]) := esSet_app h3
    rw [hfl', ← he]
    refine St.pack Hw ⟨hn', fun k' hk' => ?_, esGet_set⟩
    rw [hf k' hk']
    rw [xGet_app_other hk']
theorem St.ohole_delete {b : Nat} {A : Value → α → Asrt} {d : α} {f : Int → α} {k : Int} {v : Value} (H : St w0 w (ohole b A d f k v :: L)) :
    ∃ es clock, w.heap[b]? = some (.map (mapE es) clock) ∧ St w0 { w with heap := w.heap.setIfInBounds b (.map (mapE (esDel es k)) clock) } (omap b A d (upd f k d) :: L) := by
  obtain ⟨l, H⟩ := H.ex_get
  obtain ⟨clock, H⟩ := H.ex_get
  have H := H.all_get
  simp only [List.cons_append] at H
  obtain ⟨hn, hf, hg⟩ := H.pur_get
  refine ⟨ents l, clock, H.drop.pt_get, ?_⟩
  have Hw := H.drop.set (.map (mapE (esDel (ents l) k)) clock)
  have he : esDel (ents l) k = ents (l.filter (·.1 ≠ k)) := esDel_ents hn
  rw [he] at Hw ⊢
  refine St.ex_mk (l.filter (·.1 ≠ k)) (St.ex_mk clock (St.pack Hw ⟨hn.sublist ((List.filter_sublist).map _), fun k' => ?_⟩))
  have hx : xGet (l.filter (·.1 ≠ k)) k' = if k' = k then none else xGet l k' := xGet_filter
  unfold upd
  rw [hx]
  split
  · rfl
  · rename_i h; exact hf k' h
theorem St.omap_new (H : St w0 w L) {α : Type} (A : Value → α → Asrt) (d : α) : St w0 { w with heap := w.heap.push (.map #[] 0) } (omap w.heap.size A d (fun _ => d) :: L) := by
  refine St.ex_mk [] (St.ex_mk 0 (St.pack (M := []) ?_ ⟨by simp, fun _ => rfl⟩))
  exact H.alloc (.map #[] 0)
end omap

section rules
variable {P : Program} {ops : Array Oper} {dst : Option Nat} {ty : TypeId} {pos : String} {after : Array Edge} {rest : List Oper} {ρ : Env} {w w0 : World} {K : Env → World → Prop}
variable {L L' L2 : List Asrt} {x y z' : Operand} {T Kt E b : Nat} {α : Type} {A : Value → α → Asrt} {d : α} {f : Int → α} {k : Int} {v : Value}
theorem d_makeMap (H : St w0 w L) {α : Type} (A : Value → α → Asrt) (d : α) (kk : ∀ w' b, St w0 w' (omap b A d (fun _ => d) :: L) → denOps P ops rest (put ρ dst (.map (some b))) w' K) :
    denOps P ops (⟨dst, .makeMap T none, ty, pos, after, none⟩ :: rest) ρ w K := by
  refine d_op ?_
  have : (execOp (ev ρ) ⟨dst, .makeMap T none, ty, pos, after, none⟩).run P w = .ok (.value (.map (some w.heap.size))) { w with heap := w.heap.push (.map #[] 0) } := rfl
  rw [this]
  exact kk _ _ (H.omap_new A d)
theorem run_lookupH {by' : Nat} [hm : TyMap P T Kt E] [hk : TyInt P Kt .i64] [hz : TyI P E 1 by' (.slice none 0 0)] (H : St w0 w L) (hh : Has L (ohole b A d f k v) L') :
    (Instr.lookup T (.map (some b)) (.int .i64 k) false).run P w = .ok v w := by
  obtain ⟨es, clock, hb, hv⟩ := (H.pick hh).ohole_get
  rw [run_lookup (Kt := Kt) (E := E) (z := .slice none 0 0) hb, hv]
theorem d_lookup {by' : Nat} [hm : TyMap P T Kt E] [hk : TyInt P Kt .i64] [hz : TyI P E 1 by' (.slice none 0 0)] (H : St w0 w L) (hx : ev ρ x = .map (some b)) (hy : ev ρ y = .int .i64 k) (hh : Has L (ohole b A d f k v) L') (kk : denOps P ops rest (put ρ dst v) w K) :
    denOps P ops (⟨dst, .lookup T x y false, ty, pos, after, none⟩ :: rest) ρ w K := by
  refine d_op ?_
  have : (execOp (ev ρ) ⟨dst, .lookup T x y false, ty, pos, after, none⟩).run P w = .ok (.value v) w := op_run_value (by rw [hx, hy]; exact run_lookupH (Kt := Kt) (E := E) H hh)
  rw [this]; exact kk
theorem ds_lookup {S : World → Prop} {r : List (Nat × Bool × Bool)} {i : Nat} {n : Bool} {by' : Nat} [hm : TyMap P T Kt E] [hk : TyInt P Kt .i64] [hz : TyI P E 1 by' (.slice none 0 0)] (ho : ops[i]? = some ⟨dst, .lookup T x y false, ty, pos, after, none⟩) (hx : ev ρ x = .map (some b)) (hy : ev ρ y = .int .i64 k) (HS : ∀ w', S w' → St w0 w' L) (hh : Has L (ohole b A d f k v) L') (hS : S w) (kk : denS P ops S K r (put ρ dst v) w) :
    denS P ops S K ((i, true, n) :: r) ρ w := by
  refine ⟨_, v, ho, ⟨fun _ w' hS' => ?_, fun e => by cases e⟩, hS, kk⟩
  exact op_run_value (by rw [hx, hy]; exact run_lookupH (Kt := Kt) (E := E) (HS w' hS') hh)
theorem d_mapUpdate [hm : TyMap P T Kt E] [hk : TyInt P Kt .i64] {v' : Value} (H : St w0 w L) (hx : ev ρ x = .map (some b)) (hy : ev ρ y = .int .i64 k) (hz : ev ρ z' = v') (hh : Repl L (ohole b A d f k v) (oheld b A d f k v') L2) (kk : ∀ w', St w0 w' L2 → denOps P ops rest (put ρ dst undef) w' K) :
    denOps P ops (⟨dst, .mapUpdate T x y z', ty, pos, after, none⟩ :: rest) ρ w K := by
  refine d_op ?_
  obtain ⟨M, h1, h2⟩ := hh.has
  obtain ⟨es, clock, hb, H'⟩ := (H.pick h1).ohole_update v'
  have : (execOp (ev ρ) ⟨dst, .mapUpdate T x y z', ty, pos, after, none⟩).run P w = .ok .skip _ := op_run_unit (by rw [hx, hy, hz]; exact run_mapUpdate (Kt := Kt) (E := E) hb)
  rw [this]
  exact kk _ (H'.unpick h2)
theorem d_delete {K2 : Nat} [hm : TyMap P T Kt E] [hk : TyInt P Kt .i64] (H : St w0 w L) (hx : ev ρ x = .map (some b)) (hy : ev ρ y = .int .i64 k) (hh : Repl L (ohole b A d f k v) (omap b A d (upd f k d)) L2) (kk : ∀ w', St w0 w' L2 → denOps P ops rest (put ρ dst (.tuple #[])) w' K) :
    denOps P ops (⟨dst, .call { callee := .builtin .delete, args := #[x, y], argTypes := #[T, K2] }, ty, pos, after, none⟩ :: rest) ρ w K := by
  refine d_op ?_
  obtain ⟨M, h1, h2⟩ := hh.has
  obtain ⟨es, clock, hb, H'⟩ := (H.pick h1).ohole_delete
  have : (execOp (ev ρ) ⟨dst, .call { callee := .builtin .delete, args := #[x, y], argTypes := #[T, K2] }, ty, pos, after, none⟩).run P w = .ok (.value (.tuple #[])) { w with heap := w.heap.setIfInBounds b (.map (mapE (esDel es k)) clock) } := by
    refine op_run_value ?_
    simp only [List.map_toArray, List.map_cons, List.map_nil, hx, hy]
    exact run_delete (Kt := Kt) (E := E) hb
  rw [this]
  exact kk _ (H'.unpick h2)
end rules
end Go.Sl
