/- The engine, fourth part: what stands in memory, said by separate pieces. -/
import Derived.Test.YtiebmodokjaokabEngC
set_option linter.unusedVariables false
set_option linter.unusedSimpArgs false
namespace Go.Sl
open Go

abbrev Frag := Nat → Option Obj
structure Frag.sub (h h' : Frag) : Prop where
  g : ∀ b o, h b = some o → h' b = some o
structure Frag.disj (h h' : Frag) : Prop where
  g : ∀ b, h b = none ∨ h' b = none
structure Asrt where
  on : Frag → Prop

def SatF : List Asrt → Frag → Prop
  | [], _ => True
  | A :: L, h => ∃ h1 h2, A.on h1 ∧ SatF L h2 ∧ h1.disj h2 ∧ h1.sub h ∧ h2.sub h
def frag (w : World) : Frag := fun b => w.heap[b]?

theorem Frag.sub.sub_trans {a b c : Frag} (h : a.sub b) (h' : b.sub c) : a.sub c := ⟨fun k o e => h'.g k o (h.g k o e)⟩
theorem Frag.disj.disj_symm {a b : Frag} (h : a.disj b) : b.disj a := ⟨fun k => (h.g k).symm⟩
theorem Frag.disj.disj_sub {a b c : Frag} (h : a.disj b) (h' : c.sub b) : a.disj c := ⟨fun k => by
  rcases h.g k with e | e
  · exact .inl e
  · right
    cases hc : c k with
    | none => rfl
    | some o => have := h'.g k o hc; rw [e] at this; cases this⟩
theorem Frag.sub_refl (a : Frag) : a.sub a := ⟨fun _ _ e => e⟩
theorem Frag.none_sub (a : Frag) : Frag.sub (fun _ => none) a := ⟨fun _ _ e => by cases e⟩
theorem Frag.none_disj (a : Frag) : Frag.disj (fun _ => none) a := ⟨fun _ => .inl rfl⟩

theorem SatF.mono : ∀ {L : List Asrt} {h h' : Frag}, SatF L h → h.sub h' → SatF L h'
  | [], _, _, _, _ => trivial
  | _ :: _, _, _, ⟨h1, h2, a, b, c, d, e⟩, hs => ⟨h1, h2, a, b, c, d.sub_trans hs, e.sub_trans hs⟩

/-- The join of two fragments that do not meet. -/
def Frag.join (a b : Frag) : Frag := fun k => match a k with | some o => some o | none => b k
theorem Frag.sub_join_l (a b : Frag) : a.sub (a.join b) := ⟨fun k o e => by simp [Frag.join, e]⟩
theorem Frag.sub_join_r {a b : Frag} (h : a.disj b) : b.sub (a.join b) := ⟨fun k o e => by
  rcases h.g k with e' | e'
  · simp [Frag.join, e', e]
  · rw [e] at e'; cases e'⟩
theorem Frag.join_sub {a b c : Frag} (h : a.sub c) (h' : b.sub c) : (a.join b).sub c := ⟨fun k o e => by
  unfold Frag.join at e
  cases ha : a k with
  | some x => rw [ha] at e; simp only [Option.some.injEq] at e; subst e; exact h.g k _ ha
  | none => rw [ha] at e; exact h'.g k o e⟩
theorem Frag.disj_join {a b c : Frag} (h : a.disj b) (h' : a.disj c) : a.disj (b.join c) := ⟨fun k => by
  rcases h.g k with e | e
  · exact .inl e
  · rcases h'.g k with e' | e'
    · exact .inl e'
    · right; simp [Frag.join, e, e']⟩

theorem SatF.swap {A B : Asrt} {L : List Asrt} {h : Frag} (hs : SatF (A :: B :: L) h) : SatF (B :: A :: L) h := by
  obtain ⟨h1, h2, a, ⟨h3, h4, b, c, d, e, f⟩, g, i, j⟩ := hs
  have d14 : h1.disj h4 := g.disj_sub f
  have d13 : h1.disj h3 := g.disj_sub e
  refine ⟨h3, h1.join h4, b, ⟨h1, h4, a, c, d14, Frag.sub_join_l h1 h4, Frag.sub_join_r d14⟩, Frag.disj_join d13.disj_symm d, e.sub_trans j, Frag.join_sub i (f.sub_trans j)⟩

theorem SatF.imp {A : Asrt} {L L' : List Asrt} {h : Frag} (hi : ∀ h, SatF L h → SatF L' h) (hs : SatF (A :: L) h) : SatF (A :: L') h := by
  obtain ⟨h1, h2, a, b, c, d, e⟩ := hs
  exact ⟨h1, h2, a, hi _ b, c, d, e⟩
theorem SatF.head {A B : Asrt} {L : List Asrt} {h : Frag} (hi : ∀ h, A.on h → B.on h) (hs : SatF (A :: L) h) : SatF (B :: L) h := by
  obtain ⟨h1, h2, a, b, c, d, e⟩ := hs
  exact ⟨h1, h2, hi _ a, b, c, d, e⟩
theorem SatF.tail {A : Asrt} {L : List Asrt} {h : Frag} (hs : SatF (A :: L) h) : SatF L h := by
  obtain ⟨h1, h2, a, b, c, d, e⟩ := hs
  exact b.mono e

/-- L holds A; without it, L'. -/
inductive Has : List Asrt → Asrt → List Asrt → Prop
  | here {A L} : Has (A :: L) A L
  | there {A B L L'} : Has L A L' → Has (B :: L) A (B :: L')
/-- L with A in it; the same with A' in its place. -/
inductive Repl : List Asrt → Asrt → Asrt → List Asrt → Prop
  | here {A A' L} : Repl (A :: L) A A' (A' :: L)
  | there {A A' B L L'} : Repl L A A' L' → Repl (B :: L) A A' (B :: L')
theorem Has.front {L L' : List Asrt} {A : Asrt} (hh : Has L A L') : ∀ {h : Frag}, SatF L h → SatF (A :: L') h := by
  induction hh with
  | here => exact id
  | there _ ih => exact fun hs => (hs.imp fun _ => ih).swap
theorem Has.back {L L' : List Asrt} {A : Asrt} (hh : Has L A L') : ∀ {h : Frag}, SatF (A :: L') h → SatF L h := by
  induction hh with
  | here => exact id
  | there _ ih => exact fun hs => hs.swap.imp fun _ => ih
theorem Repl.has {L L' : List Asrt} {A A' : Asrt} (hr : Repl L A A' L') : ∃ M, Has L A M ∧ Has L' A' M := by
  induction hr with
  | here => exact ⟨_, .here, .here⟩
  | there _ ih => obtain ⟨M, h1, h2⟩ := ih; exact ⟨_, .there h1, .there h2⟩

theorem SatF.app : ∀ {L M : List Asrt} {h : Frag}, SatF (L ++ M) h → SatF (⟨SatF L⟩ :: M) h
  | [], M, h, hs => ⟨fun _ => none, h, trivial, hs, Frag.none_disj _, Frag.none_sub _, Frag.sub_refl _⟩
  | A :: L, M, h, hs => by
    obtain ⟨h1, h2, a, b, c, d, e⟩ := hs
    obtain ⟨h3, h4, a', b', c', d', e'⟩ := SatF.app b
    have d13 : h1.disj h3 := c.disj_sub d'
    exact ⟨h1.join h3, h4, ⟨h1, h3, a, a', d13, Frag.sub_join_l h1 h3, Frag.sub_join_r d13⟩, b', (Frag.disj_join (c.disj_sub e').disj_symm c'.disj_symm).disj_symm, Frag.join_sub d (d'.sub_trans e), e'.sub_trans e⟩
theorem SatF.unapp : ∀ {L M : List Asrt} {h : Frag}, SatF (⟨SatF L⟩ :: M) h → SatF (L ++ M) h
  | [], M, h, hs => hs.tail
  | A :: L, M, h, hs => by
    obtain ⟨h1, h2, ⟨h3, h4, a, b, c, d, e⟩, b', c', d', e'⟩ := hs
    have hm : SatF (L ++ M) (h4.join h2) := SatF.unapp ⟨h4, h2, b, b', (c'.disj_symm.disj_sub e).disj_symm, Frag.sub_join_l h4 h2, Frag.sub_join_r (c'.disj_symm.disj_sub e).disj_symm⟩
    exact ⟨h3, h4.join h2, a, hm, Frag.disj_join c ((c'.disj_symm.disj_sub d).disj_symm), d.sub_trans d', Frag.join_sub (e.sub_trans d') e'⟩

structure St (w0 w : World) (L : List Asrt) : Prop where
  os : w.os = w0.os
  tape : w.tape = w0.tape
  output : w.output = w0.output
  size : w0.heap.size ≤ w.heap.size
  sat : SatF L (frag w)

section st
variable {w0 w : World} {L L' M : List Asrt} {A B : Asrt}
theorem St.imp (H : St w0 w L) (hi : ∀ h, SatF L h → SatF L' h) : St w0 w L' := ⟨H.os, H.tape, H.output, H.size, hi _ H.sat⟩
theorem St.pick (H : St w0 w L) (hh : Has L A L') : St w0 w (A :: L') := H.imp fun _ => hh.front
theorem St.unpick (H : St w0 w (A :: L')) (hh : Has L A L') : St w0 w L := H.imp fun _ => hh.back
theorem St.drop (H : St w0 w (A :: L)) : St w0 w L := H.imp fun _ => SatF.tail
theorem St.head (H : St w0 w (A :: L)) (hi : ∀ h, A.on h → B.on h) : St w0 w (B :: L) := H.imp fun _ => SatF.head hi
theorem St.swap (H : St w0 w (A :: B :: L)) : St w0 w (B :: A :: L) := H.imp fun _ => SatF.swap
theorem St.drawn (H : St w0 w L) (n : Nat) : St w0 { w with drawn := n } L := ⟨H.os, H.tape, H.output, H.size, H.sat⟩

/-- A block. -/
def pt (b : Nat) (o : Obj) : Asrt := ⟨fun h => h b = some o⟩
/-- A block of cells that no string shares. -/
def cl (b : Nat) (c : Array Value) (E : TypeId) : Asrt := ⟨fun h => h b = some (.cells c E (0, 0))⟩
def pur (p : Prop) : Asrt := ⟨fun _ => p⟩
def ex {α : Type} (A : α → Asrt) : Asrt := ⟨fun h => ∃ x, (A x).on h⟩
def all (L : List Asrt) : Asrt := ⟨SatF L⟩
/-- All that was there when the world was W. -/
def old (W : World) : Asrt := ⟨fun h => ∀ b, b < W.heap.size → h b = W.heap[b]?⟩

theorem St.pt_get {b : Nat} {o : Obj} (H : St w0 w (pt b o :: L)) : w.heap[b]? = some o := by
  obtain ⟨h1, h2, a, _, _, d, _⟩ := H.sat
  exact d.g _ _ a
theorem St.cl_get {b : Nat} {c : Array Value} {E : TypeId} (H : St w0 w (cl b c E :: L)) : w.heap[b]? = some (.cells c E (0, 0)) := H.pt_get
theorem St.old_get {W : World} (H : St w0 w (old W :: L)) {b : Nat} (hb : b < W.heap.size) : w.heap[b]? = W.heap[b]? := by
  obtain ⟨h1, h2, a, _, _, d, _⟩ := H.sat
  have := a b hb
  rw [Array.getElem?_eq_getElem hb] at this ⊢
  exact d.g _ _ this
theorem St.pur_get {p : Prop} (H : St w0 w (pur p :: L)) : p := by
  obtain ⟨h1, h2, a, _⟩ := H.sat; exact a
theorem St.pur_mk {p : Prop} (H : St w0 w L) (hp : p) : St w0 w (pur p :: L) :=
  H.imp fun h hs => ⟨fun _ => none, h, hp, hs, Frag.none_disj _, Frag.none_sub _, Frag.sub_refl _⟩
theorem St.ex_get {α : Type} {F : α → Asrt} (H : St w0 w (ex F :: L)) : ∃ x, St w0 w (F x :: L) := by
  obtain ⟨h1, h2, ⟨x, a⟩, r⟩ := H.sat
  exact ⟨x, H.os, H.tape, H.output, H.size, h1, h2, a, r⟩
theorem St.ex_mk {α : Type} {F : α → Asrt} (x : α) (H : St w0 w (F x :: L)) : St w0 w (ex F :: L) := H.head fun _ h => ⟨x, h⟩
theorem St.all_get (H : St w0 w (all M :: L)) : St w0 w (M ++ L) := H.imp fun _ => SatF.unapp
theorem St.all_mk (M : List Asrt) (H : St w0 w (M ++ L)) : St w0 w (all M :: L) := H.imp fun _ => SatF.app
theorem St.start (W : World) : St W W [old W] :=
  ⟨rfl, rfl, rfl, Nat.le_refl _, frag W, fun _ => none, (fun _ _ => rfl), trivial, (Frag.none_disj _).disj_symm, Frag.sub_refl _, Frag.none_sub _⟩
/-- Two pieces stand at two places. -/
theorem St.ne {a b : Nat} {o u : Obj} (H : St w0 w (pt a o :: pt b u :: L)) : a ≠ b := by
  obtain ⟨h1, h2, x, ⟨h3, h4, y, _, _, e, _⟩, d, _⟩ := H.sat
  intro hab; subst hab
  rcases d.g a with h | h
  · have x : h1 a = some o := x
    rw [x] at h; cases h
  · have y : h3 a = some u := y
    have := e.g _ _ y; rw [this] at h; cases h

/-- A new block. -/
theorem St.alloc (H : St w0 w L) (o : Obj) : St w0 { w with heap := w.heap.push o } (pt w.heap.size o :: L) := by
  refine ⟨H.os, H.tape, H.output, by have := H.size; simp; omega, ?_⟩
  have hn : frag w w.heap.size = none := by simp [frag]
  refine ⟨fun b => if b = w.heap.size then some o else none, frag w, by simp [pt], H.sat, ⟨fun b => ?_⟩, ⟨fun b u e => ?_⟩, ⟨fun b u e => ?_⟩⟩
  · by_cases hb : b = w.heap.size
    · subst hb; exact .inr hn
    · left; simp [hb]
  · by_cases hb : b = w.heap.size
    · subst hb; simp only [if_true, Option.some.injEq] at e; subst e; simp [frag]
    · simp [hb] at e
  · show (w.heap.push o)[b]? = some u
    have e : w.heap[b]? = some u := e
    have hlt : b < w.heap.size := (Array.getElem?_eq_some_iff.1 e).1
    rw [Array.getElem?_push, if_neg (by omega)]; exact e
/-- A block is written. -/
theorem St.write {b : Nat} {o o' : Obj} (H : St w0 w (pt b o :: L)) {w' : World} (ho : w'.os = w.os) (ht : w'.tape = w.tape) (hu : w'.output = w.output) (hs : w'.heap.size = w.heap.size)
    (hb : w'.heap[b]? = some o') (hr : ∀ k, k ≠ b → w'.heap[k]? = w.heap[k]?) : St w0 w' (pt b o' :: L) := by
  refine ⟨ho.trans H.os, ht.trans H.tape, hu.trans H.output, by have := H.size; omega, ?_⟩
  obtain ⟨h1, h2, a, s, d, e, f⟩ := H.sat
  have hn : h2 b = none := by
    rcases d.g b with h | h
    · have a : h1 b = some o := a
      rw [a] at h; cases h
    · exact h
  refine ⟨fun k => if k = b then some o' else none, h2, by simp [pt], s, ⟨fun k => ?_⟩, ⟨fun k u e' => ?_⟩, ⟨fun k u e' => ?_⟩⟩
  · by_cases hk : k = b
    · subst hk; exact .inr hn
    · left; simp [hk]
  · by_cases hk : k = b
    · subst hk; simp only [if_true, Option.some.injEq] at e'; subst e'; exact hb
    · simp [hk] at e'
  · have hk : k ≠ b := fun hk => by subst hk; rw [hn] at e'; cases e'
    show w'.heap[k]? = some u
    rw [hr k hk]
    exact f.g _ _ e'
theorem St.set {b : Nat} {o : Obj} (H : St w0 w (pt b o :: L)) (o' : Obj) : St w0 { w with heap := w.heap.setIfInBounds b o' } (pt b o' :: L) := by
  have hlt := (Array.getElem?_eq_some_iff.1 H.pt_get).1
  exact H.write rfl rfl rfl (by simp) (by simp [Array.getElem?_setIfInBounds_self_of_lt hlt]) (fun k hk => Array.getElem?_setIfInBounds_ne (Ne.symm hk))
end st

def oneC : Value → Bool
  | .agg _ | .tuple _ => false
  | _ => true
section cells
variable {P : Program} {w : World} {b : Nat} {c : Array Value} {E : TypeId}
theorem cell_of (hb : w.heap[b]? = some (.cells c E (0, 0))) (o : Nat) : w.cell? ⟨b, o, none⟩ = c[o]? := by
  simp [World.cell?, hb]
theorem frozen_of (hb : w.heap[b]? = some (.cells c E (0, 0))) (o : Nat) : w.frozen? ⟨b, o, none⟩ = false := by
  simp [World.frozen?, hb]
theorem run_load1 {fr : Nat × Nat} (hb : w.heap[b]? = some (.cells c E fr)) {o : Nat} {v : Value} (hv : c[o]? = some v) : (load ⟨b, o, none⟩).run P w = .ok v w := by
  show (Sem.load _ _ _).run P w = _
  have : w.cell? ⟨b, o, none⟩ = some v := by simp [World.cell?, hb, hv]
  simp only [Sem.run, this]
theorem run_store1 (hb : w.heap[b]? = some (.cells c E (0, 0))) {o : Nat} {v : Value} (ho : o < c.size) (hv : oneC v = true) :
    (store ⟨b, o, none⟩ v).run P w = .ok () { w with heap := w.heap.setIfInBounds b (.cells (c.setIfInBounds o v) E (0, 0)) } := by
  have hlt := (Array.getElem?_eq_some_iff.1 hb).1
  have hc : w.cell? ⟨b, o, none⟩ = some c[o] := by rw [cell_of hb]; simp [ho]
  have hset : w.setCell ⟨b, o, none⟩ v = { w with heap := w.heap.setIfInBounds b (.cells (c.setIfInBounds o v) E (0, 0)) } := by
    unfold World.setCell
    congr 1
    apply Array.ext
    · simp
    · intro i h1 h2
      simp only [Array.getElem_modify]
      by_cases hi : b = i
      · subst hi
        have hbe : w.heap[b] = .cells c E (0, 0) := by
          rw [Array.getElem?_eq_getElem hlt] at hb; exact Option.some.inj hb
        simp [hbe, Array.getElem_setIfInBounds_self]
      · rw [if_neg hi, Array.getElem_setIfInBounds_ne (hj := by simpa using h2) (h := hi)]
  show (Sem.store _ _ _ _).run P w = _
  cases v <;> simp only [oneC, Bool.false_eq_true] at hv <;> simp only [Sem.run, hc, frozen_of hb, hset] <;> rfl
theorem run_loadFrom {fr : Nat × Nat} (hb : w.heap[b]? = some (.cells c E fr)) (o : Nat) : ∀ (n i : Nat) (acc : Array Value), o + i + n ≤ c.size →
    (loadCellsFrom ⟨b, o, none⟩ i n acc).run P w = .ok (acc ++ c.extract (o + i) (o + i + n)) w
  | 0, i, acc, _ => by
    show Result.ok acc w = _
    rw [show c.extract (o + i) (o + i + 0) = #[] from by simp; omega]
    simp
  | n + 1, i, acc, h => by
    unfold loadCellsFrom
    rw [addr_add, run_bind P _ _ w w _ (run_load1 hb (v := c[o + i]'(by omega)) (by simp)), run_loadFrom hb o n (i + 1) _ (by omega)]
    congr 1
    apply Array.ext'
    have e : c.extract (o + i) (o + i + (n + 1)) = #[c[o + i]'(by omega)] ++ c.extract (o + (i + 1)) (o + (i + 1) + n) := by
      have := Array.extract_append_extract (as := c) (i := o + i) (j := o + i + 1) (k := o + i + (n + 1))
      rw [show min (o + i) (o + i + 1) = o + i from by omega, show max (o + i + 1) (o + i + (n + 1)) = o + i + (n + 1) from by omega] at this
      rw [← this]
      congr 1
      · apply Array.ext
        · simp; omega
        · intro k h1 h2
          simp at h2
          subst h2
          simp
      · congr 1; omega
    rw [e]
    simp
theorem run_loadCells {fr : Nat × Nat} (hb : w.heap[b]? = some (.cells c E fr)) (o n : Nat) (h : o + n ≤ c.size) : (loadCells ⟨b, o, none⟩ n).run P w = .ok (c.extract o (o + n)) w := by
  have := run_loadFrom (P := P) hb o n 0 #[] (by omega)
  simp only [Nat.add_zero, Array.empty_append] at this
  exact this
/-- Cells written one behind the other. -/
def wr (c : Array Value) (o : Nat) : List Value → Array Value
  | [] => c
  | v :: vs => wr (c.setIfInBounds o v) (o + 1) vs
theorem wr_size (vs : List Value) : ∀ (c : Array Value) (o : Nat), (wr c o vs).size = c.size := by
  induction vs with
  | nil => intro c o; rfl
  | cons v vs ih => intro c o; rw [wr, ih]; simp
theorem wr_get (vs : List Value) : ∀ (c : Array Value) (o k : Nat), o + vs.length ≤ c.size → (wr c o vs)[k]? = if o ≤ k ∧ k < o + vs.length then vs[k - o]? else c[k]? := by
  induction vs with
  | nil => intro c o k _; rw [wr, if_neg (by simp only [List.length_nil]; omega)]
  | cons v vs ih =>
    intro c o k h
    simp only [List.length_cons] at h ⊢
    rw [wr, ih _ _ _ (by simp; omega)]
    by_cases h1 : o + 1 ≤ k ∧ k < o + 1 + vs.length
    · rw [if_pos h1, if_pos (by omega), show k - o = (k - (o + 1)) + 1 from by omega, List.getElem?_cons_succ]
    · rw [if_neg h1]
      by_cases h2 : k = o
      · subst h2
        rw [if_pos (by omega), Array.getElem?_setIfInBounds_self_of_lt (by omega)]; simp
      · rw [if_neg (by omega), Array.getElem?_setIfInBounds_ne (by omega)]
theorem run_storeCells (vs : List Value) : ∀ {w : World} {c : Array Value} (_ : w.heap[b]? = some (.cells c E (0, 0))) (o i : Nat), o + i + vs.length ≤ c.size → vs.all oneC = true →
    (storeCells ⟨b, o, none⟩ vs i).run P w = .ok () { w with heap := w.heap.setIfInBounds b (.cells (wr c (o + i) vs) E (0, 0)) } := by
  induction vs with
  | nil =>
    intro w c hb o i _ _
    show Result.ok () w = _
    congr 1
    have hlt := (Array.getElem?_eq_some_iff.1 hb).1
    rw [wr]
    have : w.heap.setIfInBounds b (.cells c E (0, 0)) = w.heap := by
      apply Array.ext
      · simp
      · intro k h1 h2
        by_cases hk : b = k
        · subst hk; rw [Array.getElem_setIfInBounds_self]; rw [Array.getElem?_eq_getElem hlt] at hb; exact (Option.some.inj hb).symm
        · rw [Array.getElem_setIfInBounds_ne (hj := h2) (h := hk)]
    rw [this]
  | cons v vs ih =>
    intro w c hb o i h hall
    simp only [List.all_cons, Bool.and_eq_true] at hall
    simp only [List.length_cons] at h
    have hlt := (Array.getElem?_eq_some_iff.1 hb).1
    unfold storeCells
    show ((store ((⟨b, o, none⟩ : Addr).add i) v) >>= fun _ => storeCells ⟨b, o, none⟩ vs (i + 1)).run P w = _
    rw [addr_add, run_bind P _ _ w _ _ (run_store1 hb (o := o + i) (by omega) hall.1)]
    have hb' : ({ w with heap := w.heap.setIfInBounds b (.cells (c.setIfInBounds (o + i) v) E (0, 0)) } : World).heap[b]? = some (.cells (c.setIfInBounds (o + i) v) E (0, 0)) := by
      simp [Array.getElem?_setIfInBounds_self_of_lt hlt]
    rw [ih hb' o (i + 1) (by simp; omega) hall.2]
    congr 1
    rw [wr, show o + (i + 1) = o + i + 1 from by omega]
    congr 1
    apply Array.ext
    · simp
    · intro k h1 h2
      by_cases hk : b = k
      · subst hk; simp
      · have hk3 : k < w.heap.size := by simpa using h2
        rw [Array.getElem_setIfInBounds_ne (hj := by simpa using hk3) (h := hk), Array.getElem_setIfInBounds_ne (hj := hk3) (h := hk), Array.getElem_setIfInBounds_ne (hj := hk3) (h := hk)]
end cells
end Go.Sl
