/- what comes in, opened: arrays of bytes, bytes, slices of bytes. -/
import Derived.Test.YtiebmodokjaokabEngY
import Derived.OpenShut
set_option linter.unusedVariables false
set_option linter.unusedSimpArgs false
namespace Go.Sl
open Go Go.ChangeShapes Go.WideShapes Go.ChangeAt Go.RowKit
variable {H : Type} {enc : TypeId × Value → H} {P : Program} {w : World} {base : Nat} {spare : Nat → Bool} {held : Bool}
theorem byte_of {n : Int} (hw : (Lit.int .u8 n).wf = true) : ∃ b : Byte, Value.int .u8 n = u8b b := by
  simp only [Lit.wf, Bool.and_eq_true, decide_eq_true_eq] at hw
  have hlo : IntKind.u8.min = 0 := by decide
  have hhi : IntKind.u8.max = 255 := by decide
  refine ⟨BitVec.ofNat 8 n.toNat, ?_⟩
  show Value.int .u8 n = .int .u8 _
  rw [BitVec.toNat_ofNat]
  congr 1
  omega
theorem list_bytes {cs : List Value} (h : ∀ v ∈ cs, ∃ b : Byte, v = u8b b) : ∃ l : List Byte, cs = l.map u8b := by
  induction cs with
  | nil => exact ⟨[], rfl⟩
  | cons v cs ih =>
    obtain ⟨b, hb⟩ := h v (.head _)
    obtain ⟨l, hl⟩ := ih (fun x hx => h x (.tail _ hx))
    exact ⟨b :: l, by rw [hb, hl]; rfl⟩
/-- An array of bytes. -/
theorem open_ba {T n fuel : Nat} {cs : List Value} {x : DataW H × List MemPlace} [ht : TyBA P T n] (h : DataW.trod enc P w base spare held fuel T cs = some x) : ∃ l : List Byte, cs = l.map u8b ∧ l.length = n := by
  obtain ⟨E, h1, h2, h3⟩ := ht.ex
  obtain ⟨xs, m, _, _, hl, hxl, hel⟩ := DataW.trod_array h1 h
  rw [ht.ct] at hl
  have hb : ∀ v ∈ cs, ∃ b : Byte, v = u8b b := by
    intro v hv
    obtain ⟨i, hi, rfl⟩ := List.getElem_of_mem hv
    have h4 := hel i (by omega)
    rw [h3, Nat.mul_one] at h4
    rw [List.getElem?_eq_getElem (show i < xs.length by omega)] at h4
    have e : (cs.drop i).take 1 = [cs[i]] := by rw [List.drop_eq_getElem_cons hi]; rfl
    rw [e] at h4
    obtain ⟨k, hk, _, hw⟩ := DataW.trod_int h2 h4
    simp only [List.cons.injEq, and_true] at hk
    rw [hk]
    exact byte_of hw
  obtain ⟨l, rfl⟩ := list_bytes hb
  exact ⟨l, rfl, by simpa using hl⟩
theorem slice_shape {t e fuel : Nat} {cs : List Value} {x : DataW H × List MemPlace} (ht : P.underlying t = some (.slice e)) (h : DataW.trod enc P w base spare held fuel t cs = some x) :
    ∃ a len cap, cs = [.slice a len cap] ∧ len ≤ cap ∧ cap ≤ 9223372036854775807 := by
  rcases DataW.trod_slice ht h with ⟨rfl, _⟩ | ⟨a, len, cap, elems, rest, n, _, rfl, hx, hb, hl, hm, _⟩
  · exact ⟨none, 0, 0, rfl, by omega, by omega⟩
  · exact ⟨some a, len, cap, rfl, hl, by unfold Go.maxLen at hm; omega⟩
/-- What a slice of bytes is when it comes in. -/
structure InB (W : World) (v : Value) (l : List Byte) : Prop where
  sl : SlW W 1 v l.length (l.map u8b)
  sh : ∃ a c, v = .slice a l.length c ∧ l.length ≤ c ∧ c ≤ 9223372036854775807
  len : l.length ≤ 140737488351232
theorem InB.bs {W : World} {v : Value} {l : List Byte} {M M' : List Asrt} (h : InB W v l) (hm : Has M (old W) M') : Bs M v l := Bs.old hm h.sl h.sh
theorem open_bs {t e fuel : Nat} {cs : List Value} {x : DataW H × List MemPlace} (ht : P.underlying t = some (.slice e)) (he : P.underlying e = some (.int .u8)) (hc : P.cellsOf e = 1) (hby : P.bytesOf e = 1) (h : DataW.trod enc P w base spare held fuel t cs = some x) (hs : Small P t x.1) :
    ∃ (v : Value) (l : List Byte), cs = [v] ∧ InB w v l := by
  obtain ⟨v, l, h1, h2, h3, h4⟩ := open_bytess ht he hc hby h hs
  obtain ⟨a, len, cap, h5, h6, h7⟩ := slice_shape ht h
  rw [h1] at h5
  simp only [List.cons.injEq, and_true] at h5
  have hb : ∀ u ∈ l.map u8v, ∃ b : Byte, u = u8b b := by
    intro u hu
    obtain ⟨n, hn, rfl⟩ := List.mem_map.1 hu
    exact byte_of (h3 n hn)
  obtain ⟨lb, hlb⟩ := list_bytes hb
  have hll : l.length = lb.length := by have := congrArg List.length hlb; simpa using this
  rw [hlb, hll] at h2
  obtain ⟨a', k', hv⟩ := h2.len
  rw [h5] at hv
  simp only [Value.slice.injEq] at hv
  obtain ⟨rfl, rfl, rfl⟩ := hv
  exact ⟨v, lb, h1, ⟨h2, ⟨a, cap, h5, h6, h7⟩, by omega⟩⟩
/-- ... a slice of them. -/
structure InR (W : World) (v : Value) (ps : List (Value × List Byte)) : Prop where
  sl : SlW W 1 v ps.length (ps.map (·.1))
  sh : ∃ a c, v = .slice a ps.length c ∧ ps.length ≤ c ∧ c ≤ 9223372036854775807
  el : ∀ x ∈ ps, InB W x.1 x.2
  len : ps.length * 24 ≤ 140737488351232
theorem InR.rs {W : World} {v : Value} {ps : List (Value × List Byte)} {M M' : List Asrt} (h : InR W v ps) (hm : Has M (old W) M') : Rs M v ps :=
  ⟨Rd.old hm h.sl, fun _ _ _ _ => h.sh, fun x hx => (h.el x hx).bs hm⟩
theorem open_rs {t e e2 fuel : Nat} {cs : List Value} {x : DataW H × List MemPlace} (ht : P.underlying t = some (.slice e)) (hc : P.cellsOf e = 1) (hby : P.bytesOf e = 24) (ht2 : P.underlying e = some (.slice e2)) (he : P.underlying e2 = some (.int .u8)) (hc2 : P.cellsOf e2 = 1) (hby2 : P.bytesOf e2 = 1)
    (h : DataW.trod enc P w base spare held fuel t cs = some x) (hs : Small P t x.1) : ∃ (v : Value) (ps : List (Value × List Byte)), cs = [v] ∧ InR w v ps := by
  obtain ⟨v, l, h1, h2, h3, h4⟩ := open_sls (encd := fun x : Value × List Byte => [x.1]) (good := fun x => InB w x.1 x.2) ht hc (by decide) hby (fun _ => rfl) (fun n cs y hy hsm => by
    obtain ⟨v, l, rfl, hin⟩ := open_bs ht2 he hc2 hby2 hy hsm
    exact ⟨(v, l), rfl, hin⟩) h hs
  obtain ⟨a, len, cap, h5, h6, h7⟩ := slice_shape ht h
  rw [h1] at h5
  simp only [List.cons.injEq, and_true] at h5
  rw [flat_one] at h2
  obtain ⟨a', k', hv⟩ := h2.len
  rw [h5] at hv
  simp only [Value.slice.injEq] at hv
  obtain ⟨rfl, rfl, rfl⟩ := hv
  exact ⟨v, l, h1, ⟨h2, ⟨a, cap, h5, h6, h7⟩, h3, h4⟩⟩
/-- Arguments. -/
theorem arg_ba {T n b0 : Nat} {v : Value} {d : DataW H} {ps : List MemPlace} [ht : TyBA P T n] (hv : Value.okWide P w .any b0 T v) (h : DataW.Trod enc P w base spare held T v d ps) : ∃ l : List Byte, v = .agg (l.map u8b).toArray ∧ l.length = n := by
  obtain ⟨E, h1, _, _⟩ := ht.ex
  simp only [Value.okWide, h1] at hv
  obtain ⟨cs, rfl, _⟩ := hv
  obtain ⟨fuel, hf⟩ := h
  obtain ⟨l, hl, hn⟩ := open_ba hf
  refine ⟨l, ?_, hn⟩
  have : cs.toList = l.map u8b := hl
  rw [← this]
theorem arg_bs {t e b0 : Nat} {v : Value} {d : DataW H} {ps : List MemPlace} (ht : P.underlying t = some (.slice e)) (he : P.underlying e = some (.int .u8)) (hc : P.cellsOf e = 1) (hby : P.bytesOf e = 1) (hv : Value.okWide P w .any b0 t v) (h : DataW.Trod enc P w base spare held t v d ps) (hs : Small P t d) :
    ∃ l : List Byte, InB w v l := by
  obtain ⟨a, len, cap, rfl⟩ := okWide_slice ht hv
  obtain ⟨fuel, hf⟩ := h
  obtain ⟨u, l, hu, hin⟩ := open_bs ht he hc hby hf hs
  obtain rfl : Value.slice a len cap = u := by simpa [Value.cells] using hu
  exact ⟨l, hin⟩
theorem arg_rs {t e e2 b0 : Nat} {v : Value} {d : DataW H} {ps : List MemPlace} (ht : P.underlying t = some (.slice e)) (hc : P.cellsOf e = 1) (hby : P.bytesOf e = 24) (ht2 : P.underlying e = some (.slice e2)) (he : P.underlying e2 = some (.int .u8)) (hc2 : P.cellsOf e2 = 1) (hby2 : P.bytesOf e2 = 1)
    (hv : Value.okWide P w .any b0 t v) (h : DataW.Trod enc P w base spare held t v d ps) (hs : Small P t d) : ∃ l : List (Value × List Byte), InR w v l := by
  obtain ⟨a, len, cap, rfl⟩ := okWide_slice ht hv
  obtain ⟨fuel, hf⟩ := h
  obtain ⟨u, l, hu, hin⟩ := open_rs ht hc hby ht2 he hc2 hby2 hf hs
  obtain rfl : Value.slice a len cap = u := by simpa [Value.cells] using hu
  exact ⟨l, hin⟩
end Go.Sl
