/- what comes in, opened: slices of whatever has been opened. -/
import Derived.Test.YtiebmodokjaokabEngP
import Derived.SizedLaws
set_option linter.unusedVariables false
namespace Go.Sl
open Go Go.ChangeShapes Go.WideShapes Go.ChangeAt Go.RowKit
theorem list_of {α : Type} {Q : Nat → α → Prop} : ∀ (n : Nat), (∀ i, i < n → ∃ a, Q i a) → ∃ l : List α, l.length = n ∧ ∀ i (h : i < l.length), Q i l[i]
  | 0, _ => ⟨[], rfl, fun i h => absurd h (Nat.not_lt_zero _)⟩
  | n + 1, h => by
    obtain ⟨l, hl, hq⟩ := list_of n (fun i hi => h i (by omega))
    obtain ⟨a, ha⟩ := h n (by omega)
    refine ⟨l ++ [a], by simp [hl], fun i hi => ?_⟩
    by_cases e : i < l.length
    · rw [List.getElem_append_left e]; exact hq i e
    · have : i = n := by simp at hi; omega
      subst this
      rw [List.getElem_append_right (by omega)]
      simpa [hl] using ha
variable {H : Type} {enc : TypeId × Value → H} {P : Program} {w : World} {base : Nat} {spare : Nat → Bool} {held : Bool}
theorem cell_block {w : World} {a : Addr} {v : Value} (h : w.cell? a = some v) : ∃ c E fr, w.heap[a.block]? = some (.cells c E fr) ∧ a.spot = none ∧ c[a.off]? = some v := by
  unfold World.cell? at h
  split at h
  · rename_i c E fr he
    split at h
    · cases h
    · rename_i hs
      exact ⟨c, E, fr, he, by simpa using hs, h⟩
  · cases h
theorem Addr.add_eq {a : Addr} (h : a.spot = none) (n : Nat) : a.add n = ⟨a.block, a.off + n, none⟩ := by
  unfold Addr.add
  split
  · subst_vars; cases a; simp_all
  · rfl
theorem open_slg {α : Type} {encd : α → List Value} {good : α → Prop} {Wt : DataW H → Prop} {t e : TypeId} {sz fuel : Nat} {cs : List Value} {x : DataW H × List MemPlace} (ht : P.underlying t = some (.slice e)) (hc : P.cellsOf e = sz) (hsz : 0 < sz)
    (he : ∀ a, (encd a).length = sz)
    (hel : ∀ (n : Nat) (cs : List Value) y, DataW.trod enc P w base spare held n e cs = some y → Wt y.1 → ∃ a : α, cs = encd a ∧ good a) (h : DataW.trod enc P w base spare held fuel t cs = some x) (hwt : ∀ es rs, x.1 = .slice es rs → ∀ d ∈ es, Wt d) :
    ∃ (v : Value) (l : List α), cs = [v] ∧ SlW w sz v l.length (l.flatMap encd) ∧ (∀ a ∈ l, good a) ∧ l.length ≤ 9223372036854775807 ∧ (l = [] ∨ ∃ es rs, x.1 = .slice es rs ∧ es.length = l.length) := by
  rcases DataW.trod_slice ht h with ⟨rfl, _⟩ | ⟨a, len, cap, elems, rest, n, _, rfl, hx, hb, hl, hm, hlen, hel2, _, _⟩
  · exact ⟨_, [], rfl, ⟨by simp, .inl ⟨_, _, rfl, rfl⟩⟩, (by simp), by simp, .inl rfl⟩
  · have hm : cap ≤ 9223372036854775807 := by unfold Go.maxLen at hm; omega
    rw [hc] at hel2
    have each : ∀ i, i < len → ∃ z : α, (w.cells? base (a.add (i * sz)) sz = some (encd z)) ∧ good z := by
      intro i hi
      have h2 := hel2 i hi
      have h3 : ∃ y, elems[i]? = some y := ⟨elems[i]'(by omega), List.getElem?_eq_getElem (by omega)⟩
      obtain ⟨y, hy⟩ := h3
      rw [hy] at h2
      obtain ⟨cs', h4, h5⟩ := Option.bind_eq_some_iff.1 h2
      obtain ⟨z, rfl, hz⟩ := hel _ _ _ h5 (hwt (elems.map (·.1)) (rest.map (·.1)) (by rw [hx]) y.1 (List.mem_map.2 ⟨y, List.mem_of_getElem? hy, rfl⟩))
      exact ⟨z, h4, hz⟩
    obtain ⟨l, hll, hq⟩ := list_of (Q := fun i z => (w.cells? base (a.add (i * sz)) sz = some (encd z)) ∧ good z) len each
    refine ⟨_, l, rfl, ?_, ?_, by omega, .inr ⟨elems.map (·.1), rest.map (·.1), by rw [hx], by simp [hlen, hll]⟩⟩
    · rw [hll]
      have hfl : (l.flatMap encd).length = len * sz := by rw [flat_len he, hll]
      refine ⟨hfl, ?_⟩
      by_cases h0 : len = 0
      · exact .inl ⟨_, _, rfl, h0⟩
      · right
        have hcell : ∀ i j (h1 : i < l.length) (h2 : j < sz), w.cell? ((a.add (i * sz)).add j) = (encd l[i])[j]? := by
          intro i j h1 h2
          have h3 := (World.cells?_some (hq i h1).1).2.2 j h2
          exact h3
        have h00 := hcell 0 0 (by omega) hsz
        rw [Nat.zero_mul] at h00
        have ha0 : (a.add 0).add 0 = a := by simp [Addr.add]
        rw [ha0] at h00
        have hsome : ∃ v, (encd (l[0]'(by omega)))[0]? = some v := ⟨_, List.getElem?_eq_getElem (by rw [he]; exact hsz)⟩
        obtain ⟨v0, hv0⟩ := hsome
        obtain ⟨c, E, fr, hbk, hsp, _⟩ := cell_block (h00.trans hv0)
        have hat : ∀ i j (h1 : i < l.length) (h2 : j < sz), c[a.off + (i * sz + j)]? = (l.flatMap encd)[i * sz + j]? := by
          intro i j h1 h2
          have h3 := hcell i j h1 h2
          have e1 : (a.add (i * sz)).add j = ⟨a.block, a.off + (i * sz + j), none⟩ := by
            rw [Addr.add_eq hsp, Addr.add_eq rfl]; simp [Nat.add_assoc]
          rw [e1] at h3
          unfold World.cell? at h3
          rw [hbk] at h3
          simp only [Option.isSome_none, Bool.false_eq_true, if_false] at h3
          rw [h3, ← flat_get he l i h1, List.getElem?_take_of_lt h2, List.getElem?_drop]
        have hk : ∀ k, k < len * sz → c[a.off + k]? = (l.flatMap encd)[k]? := by
          intro k hk
          have h1 : k / sz < l.length := by rw [hll]; exact Nat.div_lt_of_lt_mul (by rwa [Nat.mul_comm] at hk)
          have h2 := hat (k / sz) (k % sz) h1 (Nat.mod_lt _ hsz)
          have h3 : k / sz * sz + k % sz = k := by rw [Nat.mul_comm]; exact Nat.div_add_mod k sz
          rwa [h3] at h2
        have hle : a.off + len * sz ≤ c.size := by
          have hpos : 0 < len * sz := Nat.mul_pos (by omega) hsz
          have h4 := hk (len * sz - 1) (by omega)
          rw [List.getElem?_eq_getElem (by omega)] at h4
          have := (Array.getElem?_eq_some_iff.1 h4).1
          omega
        refine ⟨a.block, a.off, cap, c, E, fr, ?_, hbk, hle, ?_⟩
        · cases a; simp_all
        · apply List.ext_getElem?
          intro k
          by_cases hk' : k < len * sz
          · rw [Array.getElem?_toList, Array.getElem?_extract_of_lt (by omega), ← hk k hk', Array.getElem?_eq_getElem (by omega)]
          · rw [List.getElem?_eq_none (by simp; omega), List.getElem?_eq_none (by omega)]
    · intro z hz
      obtain ⟨i, hi, rfl⟩ := List.mem_iff_getElem.1 hz
      exact (hq i hi).2
theorem open_sl {α : Type} {encd : α → List Value} {good : α → Prop} {t e : TypeId} {sz fuel : Nat} {cs : List Value} {x : DataW H × List MemPlace} (ht : P.underlying t = some (.slice e)) (hc : P.cellsOf e = sz) (hsz : 0 < sz)
    (he : ∀ a, (encd a).length = sz)
    (hel : ∀ (n : Nat) (cs : List Value) y, DataW.trod enc P w base spare held n e cs = some y → ∃ a : α, cs = encd a ∧ good a) (h : DataW.trod enc P w base spare held fuel t cs = some x) :
    ∃ (v : Value) (l : List α), cs = [v] ∧ SlW w sz v l.length (l.flatMap encd) ∧ (∀ a ∈ l, good a) ∧ l.length ≤ 9223372036854775807 := by
  obtain ⟨v, l, h1, h2, h3, h4, _⟩ := open_slg (Wt := fun _ => True) ht hc hsz he (fun n cs y hy _ => hel n cs y hy) h (fun _ _ _ _ _ => trivial)
  exact ⟨v, l, h1, h2, h3, h4⟩
/-- What is read takes no more than the form's reach. -/
def Small (P : Program) (t : TypeId) (d : DataW H) : Prop := ∀ n ∈ d.weights P t, n ≤ 140737488351232
theorem weightsAll_mem {P : Program} {e : TypeId} : ∀ {es : List (DataW H)} {d : DataW H}, d ∈ es → ∀ n ∈ d.weights P e, n ∈ DataW.weightsAll P e es
  | a :: es, d, hd, n, hn => by
    simp only [DataW.weightsAll, List.mem_append]
    rcases List.mem_cons.1 hd with rfl | hd
    · exact .inl hn
    · exact .inr (weightsAll_mem hd n hn)
theorem Small.elems {P : Program} {t e : TypeId} {es rs : List (DataW H)} (ht : P.underlying t = some (.slice e)) (h : Small P t (.slice es rs)) : (∀ d ∈ es, Small P e d) ∧ es.length * P.bytesOf e ≤ 140737488351232 := by
  constructor
  · intro d hd n hn
    refine h n ?_
    simp only [DataW.weights, ht, List.mem_cons, List.mem_append]
    exact .inr (.inl (weightsAll_mem hd n hn))
  · have := h ((es.length + rs.length) * P.bytesOf e) (by simp [DataW.weights, ht])
    exact Nat.le_trans (Nat.mul_le_mul_right _ (by omega)) this
theorem Small.part {P : Program} {t : TypeId} {fs : Array Field} {ds : List (DataW H)} {j : Nat} {f : Field} {d : DataW H} (ht : P.underlying t = some (.struct fs)) (h : Small P t (.agg ds)) (hf : fs[j]? = some f) (hd : ds[j]? = some d) : Small P f.type d := by
  intro n hn
  refine h n ?_
  simp only [DataW.weights, ht]
  exact DataW.weights_mem_each (j := j) (by simp [hf]) hd n hn
theorem open_sls {α : Type} {encd : α → List Value} {good : α → Prop} {t e : TypeId} {sz by' fuel : Nat} {cs : List Value} {x : DataW H × List MemPlace} (ht : P.underlying t = some (.slice e)) (hc : P.cellsOf e = sz) (hsz : 0 < sz) (hby : P.bytesOf e = by')
    (he : ∀ a, (encd a).length = sz)
    (hel : ∀ (n : Nat) (cs : List Value) y, DataW.trod enc P w base spare held n e cs = some y → Small P e y.1 → ∃ a : α, cs = encd a ∧ good a) (h : DataW.trod enc P w base spare held fuel t cs = some x) (hs : Small P t x.1) :
    ∃ (v : Value) (l : List α), cs = [v] ∧ SlW w sz v l.length (l.flatMap encd) ∧ (∀ a ∈ l, good a) ∧ l.length * by' ≤ 140737488351232 := by
  obtain ⟨v, l, h1, h2, h3, h4, h5⟩ := open_slg (Wt := Small P e) ht hc hsz he hel h (fun es rs hx d hd => (Small.elems ht (hx ▸ hs)).1 d hd)
  refine ⟨v, l, h1, h2, h3, ?_⟩
  rcases h5 with rfl | ⟨es, rs, hx, hl⟩
  · simp
  · rw [← hl, ← hby]; exact (Small.elems ht (hx ▸ hs)).2
theorem flat_one {α : Type} {f : α → Value} (l : List α) : l.flatMap (fun a => [f a]) = l.map f := by induction l <;> simp_all
/-- Bytes. -/
theorem open_bytes {t e : TypeId} {fuel : Nat} {cs : List Value} {x : DataW H × List MemPlace} (ht : P.underlying t = some (.slice e)) (he : P.underlying e = some (.int .u8)) (hc : P.cellsOf e = 1) (h : DataW.trod enc P w base spare held fuel t cs = some x) :
    ∃ (v : Value) (l : List Int), cs = [v] ∧ SlW w 1 v l.length (l.map u8v) ∧ (∀ a ∈ l, 0 ≤ a ∧ a < 256) ∧ l.length ≤ 9223372036854775807 := by
  obtain ⟨v, l, h1, h2, h3, h4⟩ := open_sl (encd := fun n : Int => [u8v n]) (good := fun n => 0 ≤ n ∧ n < 256) ht hc (by decide) (fun _ => rfl) (fun n cs y hy => by
    obtain ⟨m, rfl, _, hw⟩ := DataW.trod_int he hy
    refine ⟨m, rfl, ?_⟩
    simp only [Lit.wf, Bool.and_eq_true, decide_eq_true_eq] at hw
    have hlo : IntKind.u8.min = 0 := by decide
    have hhi : IntKind.u8.max = 255 := by decide
    omega) h
  rw [flat_one] at h2
  exact ⟨v, l, h1, h2, h3, h4⟩
theorem open_bytess {t e : TypeId} {fuel : Nat} {cs : List Value} {x : DataW H × List MemPlace} (ht : P.underlying t = some (.slice e)) (he : P.underlying e = some (.int .u8)) (hc : P.cellsOf e = 1) (hby : P.bytesOf e = 1) (h : DataW.trod enc P w base spare held fuel t cs = some x) (hs : Small P t x.1) :
    ∃ (v : Value) (l : List Int), cs = [v] ∧ SlW w 1 v l.length (l.map u8v) ∧ (∀ a ∈ l, (Lit.int .u8 a).wf = true) ∧ l.length ≤ 140737488351232 := by
  obtain ⟨v, l, h1, h2, h3, h4⟩ := open_sls (encd := fun n : Int => [u8v n]) (good := fun n => (Lit.int .u8 n).wf = true) ht hc (by decide) hby (fun _ => rfl) (fun n cs y hy _ => by
    obtain ⟨m, rfl, _, hw⟩ := DataW.trod_int he hy
    exact ⟨m, rfl, hw⟩) h hs
  rw [flat_one] at h2
  exact ⟨v, l, h1, h2, h3, by omega⟩
end Go.Sl
