/- slices cut from their beginning on. -/
import Derived.Test.YtiebmodokjaokabEngW
set_option linter.unusedVariables false
set_option linter.unusedSimpArgs false
namespace Go.Sl
open Go
theorem Bs.take {M : List Asrt} {b o c n : Nat} {l : List Byte} (h : Bs M (.slice (Option.some ⟨b, o, none⟩) l.length c) l) (hn : n ≤ l.length) : Bs M (.slice (Option.some ⟨b, o, none⟩) n c) (l.take n) := by
  have e : (l.take n).length = n := by simp; omega
  refine ⟨?_, ?_⟩
  · rw [e]
    intro w0 F w H
    obtain ⟨h1, h2⟩ := h.rd w0 F w H
    refine ⟨by simp; omega, ?_⟩
    rcases h2 with ⟨a, k, _, h0⟩ | ⟨b', o', k, cc, E, fr, hv, hb, hle, hx⟩
    · exact .inl ⟨_, _, rfl, by omega⟩
    · simp only [Value.slice.injEq, Option.some.injEq, Addr.mk.injEq] at hv
      obtain ⟨⟨rfl, rfl, _⟩, _, rfl⟩ := hv
      refine .inr ⟨b, o, c, cc, E, fr, rfl, hb, by omega, ?_⟩
      rw [List.map_take, ← hx]
      simp only [Array.toList_extract, List.extract_eq_take_drop, List.take_take]
      congr 1; omega
  · intro w0 F w H
    obtain ⟨a, c', hv, h1, h2⟩ := h.sh w0 F w H
    simp only [Value.slice.injEq] at hv
    obtain ⟨_, _, rfl⟩ := hv
    exact ⟨_, _, by rw [e], by omega, h2⟩
theorem Bs.take0 {M : List Asrt} {a : Option Addr} {c : Nat} {l : List Byte} (h : Bs M (.slice a l.length c) l) : Bs M (.slice a 0 c) (l.take 0) := by
  refine ⟨Rd.nil, ?_⟩
  intro w0 F w H
  obtain ⟨a', c', hv, h1, h2⟩ := h.sh w0 F w H
  simp only [Value.slice.injEq] at hv
  obtain ⟨_, _, rfl⟩ := hv
  exact ⟨_, _, rfl, by simp, h2⟩
theorem pv_sls0a {P : Program} {ρ : Env} {x : Operand} {S E sz by' n c h : Nat} {a : Option Addr} {z : Value} {hi : Option Operand} [hs : TySlice P S E] [hi' : TyI P E sz by' z] (hx : ev ρ x = .slice a n c)
    (hh : optB ρ n hi = some (h : Int)) (hc : h ≤ c) : PV P (.slice S x none hi none) ρ (.slice a h c) := by
  have := pv_slsc (P := P) (S := S) (lo := none) (l := 0) hx rfl hh (by omega) hc
  have e : (if c = 0 then a else a.map (·.add (0 * sz))) = a := by
    split
    · rfl
    · cases a with
      | none => rfl
      | some a => simp [Option.map, Addr.add]
  rw [e] at this
  simpa using this
theorem Bs.takeA {M : List Asrt} {a : Option Addr} {c n : Nat} {l : List Byte} (h : Bs M (.slice a l.length c) l) (hn : n ≤ l.length) : Bs M (.slice a n c) (l.take n) := by
  have e : (l.take n).length = n := by simp; omega
  by_cases h0 : n = 0
  · subst h0; exact h.take0
  · refine ⟨?_, ?_⟩
    · intro w0 F w H
      obtain ⟨b, o, rfl⟩ := h.some (by omega) H
      exact (h.take hn).rd w0 F w H
    · intro w0 F w H
      obtain ⟨a', c', hv, h1, h2⟩ := h.sh w0 F w H
      simp only [Value.slice.injEq] at hv
      obtain ⟨_, _, rfl⟩ := hv
      exact ⟨_, _, by rw [e], by omega, h2⟩
end Go.Sl
