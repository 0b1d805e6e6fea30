/- host: a life, opened. -/
import Derived.Test.YtiebmodokjaokaaHostT
import Derived.Test.YtiebmodokjaokaaEngQ
set_option linter.unusedVariables false
set_option linter.unusedSimpArgs false
namespace Go.Sl
open Go Go.Proofs Go.ChangeShapes Go.WideShapes Go.ChangeAt Go.RowKit
structure FaultOk (f : HostS.Fault) : Prop where
  at_ : (Lit.int .i64 f.at_).wf = true
  kind : (Lit.int .i64 f.kind).wf = true
  page : (Lit.int .i64 f.page).wf = true
  byte : (Lit.int .i64 f.byte).wf = true
  by_ : (Lit.int .u8 f.by_).wf = true
  back : (Lit.int .i64 f.back).wf = true
abbrev StepV := HostS.Step × Value
def vcells (x : StepV) : List Value := scells x.1 x.2
structure StepOk (W : World) (x : StepV) : Prop where
  do_ : (Lit.int .i64 x.1.do_).wf = true
  page : (Lit.int .i64 x.1.page).wf = true
  v : (Lit.int .u64 x.1.v).wf = true
  sl : SlW W 1 x.2 x.1.data.length (x.1.data.map u8v)
  data : ∀ a ∈ x.1.data, (Lit.int .u8 a).wf = true
  len : x.1.data.length ≤ 140737488351232
structure Life where
  (pages size : Int)
  fl : List HostS.Fault
  sc : List StepV
  (fv sv : Value)
structure LifeOk (W : World) (x : Life) : Prop where
  pages : (Lit.int .i64 x.pages).wf = true
  size : (Lit.int .i64 x.size).wf = true
  fsl : SlW W 6 x.fv x.fl.length (x.fl.flatMap fcells)
  fok : ∀ f ∈ x.fl, FaultOk f
  flen : x.fl.length * 48 ≤ 140737488351232
  ssl : SlW W 4 x.sv x.sc.length (x.sc.flatMap vcells)
  sok : ∀ s ∈ x.sc, StepOk W s
  slen : x.sc.length * 48 ≤ 140737488351232
def lcells (x : Life) : List Value := [.int .i64 x.pages, .int .i64 x.size, x.fv, x.sv]
section
variable {H : Type} {enc : TypeId × Value → H} {w : World} {base : Nat} {spare : Nat → Bool} {held : Bool}
theorem four {cs : List Value} (h : cs.length = 4) : ∃ a b c d, cs = [a, b, c, d] := by
  match cs, h with
  | [a, b, c, d], _ => exact ⟨a, b, c, d, rfl⟩
theorem six {cs : List Value} (h : cs.length = 6) : ∃ a b c d e f, cs = [a, b, c, d, e, f] := by
  match cs, h with
  | [a, b, c, d, e, f], _ => exact ⟨a, b, c, d, e, f, rfl⟩
theorem open_fault {n : Nat} {cs : List Value} {y : DataW H × List MemPlace} (h : DataW.trod enc Try.prog w base spare held n 30 cs = some y) : ∃ f : HostS.Fault, cs = fcells f ∧ FaultOk f := by
  obtain ⟨xs, m, _, hx, hl, hn, hf⟩ := DataW.trod_struct Try.underlying30 h
  have c3 : Try.prog.cellsOf 3 = 1 := by kernel_rfl
  have c5 : Try.prog.cellsOf 5 = 1 := by kernel_rfl
  have c30 : Try.prog.cellsOf 30 = 6 := by kernel_rfl
  rw [c30] at hl
  obtain ⟨a0, a1, a2, a3, a4, a5, rfl⟩ := six hl
  have hn : xs.length = 6 := hn
  have g : ∀ i (hi : i < xs.length), xs[i]? = some xs[i] := fun i hi => List.getElem?_eq_getElem hi
  have e0 : DataW.trod enc Try.prog w base spare held m 3 (([a0, a1, a2, a3, a4, a5].drop 0).take (Try.prog.cellsOf 3)) = some (xs[0]'(by omega)) := (hf 0 _ rfl).trans (g 0 (by omega))
  rw [c3] at e0; simp only [List.drop_zero, List.drop_succ_cons, List.take_succ_cons, List.take_zero] at e0
  have e1 : DataW.trod enc Try.prog w base spare held m 3 (([a0, a1, a2, a3, a4, a5].drop 1).take (Try.prog.cellsOf 3)) = some (xs[1]'(by omega)) := (hf 1 _ rfl).trans (g 1 (by omega))
  rw [c3] at e1; simp only [List.drop_zero, List.drop_succ_cons, List.take_succ_cons, List.take_zero] at e1
  have e2 : DataW.trod enc Try.prog w base spare held m 3 (([a0, a1, a2, a3, a4, a5].drop 2).take (Try.prog.cellsOf 3)) = some (xs[2]'(by omega)) := (hf 2 _ rfl).trans (g 2 (by omega))
  rw [c3] at e2; simp only [List.drop_zero, List.drop_succ_cons, List.take_succ_cons, List.take_zero] at e2
  have e3 : DataW.trod enc Try.prog w base spare held m 3 (([a0, a1, a2, a3, a4, a5].drop 3).take (Try.prog.cellsOf 3)) = some (xs[3]'(by omega)) := (hf 3 _ rfl).trans (g 3 (by omega))
  rw [c3] at e3; simp only [List.drop_zero, List.drop_succ_cons, List.take_succ_cons, List.take_zero] at e3
  have e4 : DataW.trod enc Try.prog w base spare held m 5 (([a0, a1, a2, a3, a4, a5].drop 4).take (Try.prog.cellsOf 5)) = some (xs[4]'(by omega)) := (hf 4 _ rfl).trans (g 4 (by omega))
  rw [c5] at e4; simp only [List.drop_zero, List.drop_succ_cons, List.take_succ_cons, List.take_zero] at e4
  have e5 : DataW.trod enc Try.prog w base spare held m 3 (([a0, a1, a2, a3, a4, a5].drop 5).take (Try.prog.cellsOf 3)) = some (xs[5]'(by omega)) := (hf 5 _ rfl).trans (g 5 (by omega))
  rw [c3] at e5; simp only [List.drop_zero, List.drop_succ_cons, List.take_succ_cons, List.take_zero] at e5
  obtain ⟨n0, h0, _, w0⟩ := DataW.trod_int Try.underlying3 e0
  obtain ⟨n1, h1, _, w1⟩ := DataW.trod_int Try.underlying3 e1
  obtain ⟨n2, h2, _, w2⟩ := DataW.trod_int Try.underlying3 e2
  obtain ⟨n3, h3, _, w3⟩ := DataW.trod_int Try.underlying3 e3
  obtain ⟨n4, h4, _, w4⟩ := DataW.trod_int Try.underlying5 e4
  obtain ⟨n5, h5, _, w5⟩ := DataW.trod_int Try.underlying3 e5
  simp only [List.cons.injEq, and_true] at h0 h1 h2 h3 h4 h5
  subst h0; subst h1; subst h2; subst h3; subst h4; subst h5
  exact ⟨⟨n0, n1, n2, n3, n4, n5⟩, rfl, w0, w1, w2, w3, w4, w5⟩
theorem open_step {n : Nat} {cs : List Value} {y : DataW H × List MemPlace} (h : DataW.trod enc Try.prog w base spare held n 51 cs = some y) (hs : Small Try.prog 51 y.1) : ∃ s : StepV, cs = vcells s ∧ StepOk w s := by
  obtain ⟨xs, m, _, hx, hl, hn, hf⟩ := DataW.trod_struct Try.underlying51 h
  have c3 : Try.prog.cellsOf 3 = 1 := by kernel_rfl
  have c5 : Try.prog.cellsOf 5 = 1 := by kernel_rfl
  have b5 : Try.prog.bytesOf 5 = 1 := by kernel_rfl
  have c23 : Try.prog.cellsOf 23 = 1 := by kernel_rfl
  have c22 : Try.prog.cellsOf 22 = 1 := by kernel_rfl
  have c51 : Try.prog.cellsOf 51 = 4 := by kernel_rfl
  rw [c51] at hl
  obtain ⟨a0, a1, a2, a3, rfl⟩ := four hl
  have hn : xs.length = 4 := hn
  have g : ∀ i (hi : i < xs.length), xs[i]? = some xs[i] := fun i hi => List.getElem?_eq_getElem hi
  have e0 : DataW.trod enc Try.prog w base spare held m 3 (([a0, a1, a2, a3].drop 0).take (Try.prog.cellsOf 3)) = some (xs[0]'(by omega)) := (hf 0 _ rfl).trans (g 0 (by omega))
  rw [c3] at e0; simp only [List.drop_zero, List.drop_succ_cons, List.take_succ_cons, List.take_zero] at e0
  have e1 : DataW.trod enc Try.prog w base spare held m 3 (([a0, a1, a2, a3].drop 1).take (Try.prog.cellsOf 3)) = some (xs[1]'(by omega)) := (hf 1 _ rfl).trans (g 1 (by omega))
  rw [c3] at e1; simp only [List.drop_zero, List.drop_succ_cons, List.take_succ_cons, List.take_zero] at e1
  have e2 : DataW.trod enc Try.prog w base spare held m 23 (([a0, a1, a2, a3].drop 2).take (Try.prog.cellsOf 23)) = some (xs[2]'(by omega)) := (hf 2 _ rfl).trans (g 2 (by omega))
  rw [c23] at e2; simp only [List.drop_zero, List.drop_succ_cons, List.take_succ_cons, List.take_zero] at e2
  have e3 : DataW.trod enc Try.prog w base spare held m 22 (([a0, a1, a2, a3].drop 3).take (Try.prog.cellsOf 22)) = some (xs[3]'(by omega)) := (hf 3 _ rfl).trans (g 3 (by omega))
  rw [c22] at e3; simp only [List.drop_zero, List.drop_succ_cons, List.take_succ_cons, List.take_zero] at e3
  obtain ⟨n0, h0, _, w0⟩ := DataW.trod_int Try.underlying3 e0
  obtain ⟨n1, h1, _, w1⟩ := DataW.trod_int Try.underlying3 e1
  obtain ⟨n2, h2, _, w2⟩ := DataW.trod_int Try.underlying23 e2
  rw [hx] at hs
  have hs3 := Small.part (j := 3) Try.underlying51 hs rfl (by rw [List.getElem?_map, g 3 (by omega)]; rfl)
  obtain ⟨v, l, h3, k1, k2, k3⟩ := open_bytess Try.underlying22 Try.underlying5 c5 b5 e3 hs3
  simp only [List.cons.injEq, and_true] at h0 h1 h2 h3
  subst h0; subst h1; subst h2; subst h3
  exact ⟨(⟨n0, n1, n2, l⟩, a3), rfl, w0, w1, w2, k1, k2, k3⟩
theorem open_life {n : Nat} {cs : List Value} {y : DataW H × List MemPlace} (h : DataW.trod enc Try.prog w base spare held n 46 cs = some y) (hs : Small Try.prog 46 y.1) : ∃ x : Life, cs = lcells x ∧ LifeOk w x := by
  obtain ⟨xs, m, _, hx, hl, hn, hf⟩ := DataW.trod_struct Try.underlying46 h
  have c3 : Try.prog.cellsOf 3 = 1 := by kernel_rfl
  have c30 : Try.prog.cellsOf 30 = 6 := by kernel_rfl
  have b30 : Try.prog.bytesOf 30 = 48 := by kernel_rfl
  have c31 : Try.prog.cellsOf 31 = 1 := by kernel_rfl
  have c44 : Try.prog.cellsOf 44 = 1 := by kernel_rfl
  have c51 : Try.prog.cellsOf 51 = 4 := by kernel_rfl
  have b51 : Try.prog.bytesOf 51 = 48 := by kernel_rfl
  have c46 : Try.prog.cellsOf 46 = 4 := by kernel_rfl
  rw [c46] at hl
  obtain ⟨a0, a1, a2, a3, rfl⟩ := four hl
  have hn : xs.length = 4 := hn
  have g : ∀ i (hi : i < xs.length), xs[i]? = some xs[i] := fun i hi => List.getElem?_eq_getElem hi
  have e0 : DataW.trod enc Try.prog w base spare held m 3 (([a0, a1, a2, a3].drop 0).take (Try.prog.cellsOf 3)) = some (xs[0]'(by omega)) := (hf 0 _ rfl).trans (g 0 (by omega))
  rw [c3] at e0; simp only [List.drop_zero, List.drop_succ_cons, List.take_succ_cons, List.take_zero] at e0
  have e1 : DataW.trod enc Try.prog w base spare held m 3 (([a0, a1, a2, a3].drop 1).take (Try.prog.cellsOf 3)) = some (xs[1]'(by omega)) := (hf 1 _ rfl).trans (g 1 (by omega))
  rw [c3] at e1; simp only [List.drop_zero, List.drop_succ_cons, List.take_succ_cons, List.take_zero] at e1
  have e2 : DataW.trod enc Try.prog w base spare held m 31 (([a0, a1, a2, a3].drop 2).take (Try.prog.cellsOf 31)) = some (xs[2]'(by omega)) := (hf 2 _ rfl).trans (g 2 (by omega))
  rw [c31] at e2; simp only [List.drop_zero, List.drop_succ_cons, List.take_succ_cons, List.take_zero] at e2
  have e3 : DataW.trod enc Try.prog w base spare held m 44 (([a0, a1, a2, a3].drop 3).take (Try.prog.cellsOf 44)) = some (xs[3]'(by omega)) := (hf 3 _ rfl).trans (g 3 (by omega))
  rw [c44] at e3; simp only [List.drop_zero, List.drop_succ_cons, List.take_succ_cons, List.take_zero] at e3
  obtain ⟨n0, h0, _, w0⟩ := DataW.trod_int Try.underlying3 e0
  obtain ⟨n1, h1, _, w1⟩ := DataW.trod_int Try.underlying3 e1
  rw [hx] at hs
  have hs2 := Small.part (j := 2) Try.underlying46 hs rfl (by rw [List.getElem?_map, g 2 (by omega)]; rfl)
  have hs3 := Small.part (j := 3) Try.underlying46 hs rfl (by rw [List.getElem?_map, g 3 (by omega)]; rfl)
  obtain ⟨v2, l2, h2, k1, k2, k3⟩ := open_sls (encd := fcells) (good := FaultOk) Try.underlying31 c30 (by decide) b30 fcells_len (fun n cs y hy _ => open_fault hy) e2 hs2
  obtain ⟨v3, l3, h3, m1, m2, m3⟩ := open_sls (encd := vcells) (good := StepOk w) Try.underlying44 c51 (by decide) b51 (fun _ => rfl) (fun n cs y hy hsm => open_step hy hsm) e3 hs3
  simp only [List.cons.injEq, and_true] at h0 h1 h2 h3
  subst h0; subst h1; subst h2; subst h3
  exact ⟨⟨n0, n1, l2, l3, a2, a3⟩, rfl, w0, w1, k1, k2, k3, m1, m2, m3⟩
end
end Go.Sl
