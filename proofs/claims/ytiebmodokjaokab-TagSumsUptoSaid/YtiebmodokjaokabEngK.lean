/- what the bound of an '..UptoSaid' gives: lengths. -/
import Derived.Test.YtiebmodokjaokabEngZ
import Derived.Test.YtiebmodokjaokabRows
import Derived.Test.YtiebmodokjaokabRefB
set_option linter.unusedVariables false
set_option linter.unusedSimpArgs false
namespace Go.Sl
open Go Go.Proofs Go.ChangeShapes Go.WideShapes Go.ChangeAt Go.RowKit
open Ytiebmodokjaokab (Rows.uptoBulk Rows.uptoBulkAll)
variable {H : Type} {enc : TypeId × Value → H} {P : Program} {w : World} {base : Nat} {spare : Nat → Bool} {held : Bool}
theorem bulk_pos (d : DataW H) : 1 ≤ Ytiebmodokjaokab.Rows.uptoBulk d := by
  cases d with
  | lit l => cases l <;> simp [Ytiebmodokjaokab.Rows.uptoBulk]
  | nil => simp [Ytiebmodokjaokab.Rows.uptoBulk]
  | ptr d => simp [Ytiebmodokjaokab.Rows.uptoBulk]
  | slice elems spare => simp [Ytiebmodokjaokab.Rows.uptoBulk]
  | agg parts => simp [Ytiebmodokjaokab.Rows.uptoBulk]
  | iface t d => simp [Ytiebmodokjaokab.Rows.uptoBulk]
  | map entries => simp [Ytiebmodokjaokab.Rows.uptoBulk]
  | held h => simp [Ytiebmodokjaokab.Rows.uptoBulk]
theorem bulk_len (l : List (DataW H)) : l.length ≤ Ytiebmodokjaokab.Rows.uptoBulkAll l := by
  induction l with
  | nil => simp [Ytiebmodokjaokab.Rows.uptoBulkAll]
  | cons x r ih => have := bulk_pos x; simp only [Ytiebmodokjaokab.Rows.uptoBulkAll, List.length_cons]; omega
/-- The bytes of a slice are at most its bulk. -/
theorem bulk_bs {t e fuel : Nat} {v : Value} {l : List Byte} {W : World} {x : DataW H × List MemPlace} (ht : P.underlying t = some (.slice e)) (hin : InB W v l) (h : DataW.trod enc P w base spare held fuel t [v] = some x) : l.length ≤ Ytiebmodokjaokab.Rows.uptoBulk x.1 := by
  obtain ⟨a, c, rfl, _, _⟩ := hin.sh
  rcases DataW.trod_slice ht h with ⟨hv, hx⟩ | ⟨a', len, cap, elems, rest, n, _, hv, hx, _, _, _, hlen, _⟩
  · simp only [List.cons.injEq, Value.slice.injEq, and_true] at hv
    omega
  · simp only [List.cons.injEq, Value.slice.injEq, and_true] at hv
    obtain ⟨_, hl, _⟩ := hv
    rw [hx]
    have := bulk_len (elems.map (·.1))
    simp only [Ytiebmodokjaokab.Rows.uptoBulk]
    simp at this
    omega
theorem bulk_sum : ∀ (ps : List (Value × List Byte)) (ds : List (DataW H)), ps.length = ds.length → (∀ i (h1 : i < ps.length) (h2 : i < ds.length), ps[i].2.length ≤ Ytiebmodokjaokab.Rows.uptoBulk ds[i]) → (joinB ps).length ≤ Ytiebmodokjaokab.Rows.uptoBulkAll ds
  | [], [], _, _ => by simp [joinB]
  | p :: ps, d :: ds, hl, h => by
    have h0 := h 0 (by simp) (by simp)
    have ih := bulk_sum ps ds (by simpa using hl) (fun i h1 h2 => h (i + 1) (by simpa using h1) (by simpa using h2))
    simp only [List.getElem_cons_zero] at h0
    have e : joinB (p :: ps) = p.2 ++ joinB ps := by simp [joinB]
    rw [e, List.length_append]
    simp only [Ytiebmodokjaokab.Rows.uptoBulkAll]
    omega
  | [], _ :: _, hl, _ => by simp at hl
  | _ :: _, [], hl, _ => by simp at hl
/-- ... of slices of bytes: what they hold together. -/
theorem bulk_rs {t e e2 fuel : Nat} {v : Value} {ps : List (Value × List Byte)} {x : DataW H × List MemPlace} (ht : P.underlying t = some (.slice e)) (hc : P.cellsOf e = 1) (ht2 : P.underlying e = some (.slice e2)) (hin : InR w v ps) (h : DataW.trod enc P w base spare held fuel t [v] = some x) :
    (joinB ps).length + ps.length ≤ 2 * Ytiebmodokjaokab.Rows.uptoBulk x.1 := by
  obtain ⟨a, c, rfl, _, _⟩ := hin.sh
  rcases DataW.trod_slice ht h with ⟨hv, hx⟩ | ⟨a', len, cap, elems, rest, n, _, hv, hx, _, _, _, hlen, hel, _⟩
  · simp only [List.cons.injEq, Value.slice.injEq, and_true] at hv
    have : ps = [] := List.eq_nil_of_length_eq_zero (by omega)
    subst this
    simp [joinB]
  · simp only [List.cons.injEq, Value.slice.injEq, and_true] at hv
    obtain ⟨rfl, hl, rfl⟩ := hv
    rw [hc] at hel
    have hs := bulk_sum ps (elems.map (·.1)) (by simp; omega) (fun i h1 h2 => by
      have h3 := hel i (by omega)
      have h4 : i < elems.length := by omega
      rw [List.getElem?_eq_getElem h4] at h3
      obtain ⟨cs', h5, h6⟩ := Option.bind_eq_some_iff.1 h3
      have h7 := World.cells?_some h5
      have hcell : cs' = [ps[i].1] := by
        obtain ⟨hb, o, hc'⟩ := hin.sl.isSome (by omega)
        simp only [Option.some.injEq] at hc'
        subst hc'
        obtain ⟨cc, E, fr, hh, hg⟩ := hin.sl.cellAt h1
        have h8 := h7.2.2 0 (by omega)
        have e1 : ((⟨hb, o, none⟩ : Addr).add (i * 1)).add 0 = ⟨hb, o + i, none⟩ := by rw [addr_add, addr_add]; simp
        rw [e1] at h8
        unfold World.cell? at h8
        rw [hh] at h8
        simp only [Option.isSome_none, Bool.false_eq_true, if_false] at h8
        rw [hg] at h8
        have hl1 : cs'.length = 1 := h7.2.1
        match cs', hl1 with
        | [u], _ =>
          simp [h1] at h8
          rw [h8]
      rw [hcell] at h6
      simp only [List.getElem_map]
      exact bulk_bs ht2 (hin.el _ (List.getElem_mem h1)) h6)
    have hl2 := bulk_len (elems.map (·.1))
    rw [hx]
    simp only [Ytiebmodokjaokab.Rows.uptoBulk]
    simp at hl2
    omega
end Go.Sl
