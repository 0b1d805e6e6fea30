/- Parts of the proof, joined: HbM, HtS, BsT, HbN, OpenLife, HtW, EngI, RefQ, EngAb, RhA, RhB, RhC, RhD. -/
import Derived.Test.YthodgeekgpkieaaLawHostPlaysM0
import Derived.Test.YthodgeekgpkieaaLawHostPlaysM1
import Derived.Test.YthodgeekgpkieaaLawHostPlaysM2
import Derived.Test.YthodgeekgpkieaaLawHostPlaysM3
/- trystlaw11: two logs compared; spoils, among, faults; awake, walked. -/
set_option maxHeartbeats 4000000
set_option maxRecDepth 10000
set_option linter.unusedVariables false
set_option linter.unusedSimpArgs false
namespace Go.Sl
open Go Go.Proofs
attribute [local irreducible] cl pt own old pur ex all den denOps denS xOps xC cX CX xthen xblk xcut xloop xgo xng retX resX Calls PV Rd Con
attribute [local irreducible] hostA
/-- A touch as the log tells it. -/
structure TOk (t : HostS.Touch) : Prop where
  op : -9223372036854775808 ≤ t.op ∧ t.op ≤ 9223372036854775807
  page : -9223372036854775808 ≤ t.page ∧ t.page ≤ 9223372036854775807
  len : -9223372036854775808 ≤ t.len ∧ t.len ≤ 9223372036854775807
  h12 : t.head.length = 12
def tlits (t : HostS.Touch) : List Lit := .int .i64 t.op :: .int .i64 t.page :: .int .i64 t.len :: t.head.map fun b => Lit.int .u8 (b.toNat : Int)
theorem wf_i64 {n : Int} (h : -9223372036854775808 ≤ n ∧ n ≤ 9223372036854775807) : (Lit.int .i64 n).wf = true := by
  simp only [Lit.wf, Bool.and_eq_true, decide_eq_true_eq]
  have e1 : IntKind.i64.min = -9223372036854775808 := by decide
  have e2 : IntKind.i64.max = 9223372036854775807 := by decide
  omega
theorem tlits_is (t : HostS.Touch) (h : TOk t) : Try.prog.keyLits 4 56 (tcells t) = some (tlits t) := by
  obtain ⟨op, page, len, head⟩ := t
  have c3 : Try.prog.cellsOf 3 = 1 := by kernel_rfl
  have c5 : Try.prog.cellsOf 5 = 1 := by kernel_rfl
  have c61 : Try.prog.cellsOf 54 = 12 := by kernel_rfl
  have c63 : Try.prog.cellsOf 56 = 15 := by kernel_rfl
  have h12 : head.length = 12 := h.h12
  have e1 := lits_arr (d := 1) (k := .u8) Try.underlying54 Try.underlying5 c5 c61 (head.map fun b => (b.toNat : Int)) (by simpa using h12) (by
    intro x hx
    obtain ⟨b, _, rfl⟩ := List.mem_map.1 hx
    exact byte_wf b)
  rw [List.map_map, List.map_map] at e1
  have i1 := lits_int (d := 2) Try.underlying3 (wf_i64 h.op)
  have i2 := lits_int (d := 2) Try.underlying3 (wf_i64 h.page)
  have i3 := lits_int (d := 2) Try.underlying3 (wf_i64 h.len)
  unfold Program.keyLits
  rw [Try.underlying56]
  have hl : (tcells ⟨op, page, len, head⟩).length = 15 := by simp [tcells, h12]
  simp only [hl, c63, true_and]
  rw [if_pos (by simp)]
  have hh : List.take 12 (List.map u8b head) = List.map (Value.int IntKind.u8 ∘ fun b : Byte => (b.toNat : Int)) head := List.take_of_length_le (by simp [h12])
  simp only [List.mapM_cons, List.mapM_nil, tcells, c3, c61, List.drop_zero, List.cons_append, List.nil_append, List.drop_succ_cons, List.take_succ_cons, List.take_zero, hh]
  simp only [i1, i2, i3, e1]
  simp [tlits, Function.comp_def]
abbrev OTouch := { t : HostS.Touch // TOk t }
def ocells (t : OTouch) : List Value := tcells t.1
theorem ocells_len (t : OTouch) : (ocells t).length = 15 := by simp [ocells, tcells, t.2.h12]
theorem sub_of {l : List HostS.Touch} (h : ∀ t ∈ l, TOk t) : ∃ l' : List OTouch, l = l'.map (·.1) := by
  induction l with
  | nil => exact ⟨[], rfl⟩
  | cons t r ih =>
    obtain ⟨l', h'⟩ := ih (fun x hx => h x (.tail _ hx))
    exact ⟨⟨t, h t (.head _)⟩ :: l', congrArg (t :: ·) h'⟩
theorem tform (t : OTouch) : (Value.agg (ocells t).toArray).formed Try.prog 56 = true := by
  have c63 : Try.prog.cellsOf 56 = 15 := by kernel_rfl
  simp [Value.formed, Try.underlying56, c63, ocells_len]
theorem tlits_inj (a b : HostS.Touch) : a = b ↔ tlits a = tlits b := by
  constructor
  · rintro rfl; rfl
  · intro h
    obtain ⟨a1, a2, a3, a4⟩ := a
    obtain ⟨b1, b2, b3, b4⟩ := b
    simp only [tlits, List.cons.injEq, Lit.int.injEq, true_and] at h
    obtain ⟨rfl, rfl, rfl, h⟩ := h
    rw [ba_inj.2 h]
theorem pv_neq_touch {ρ : Env} {x y : Operand} {T' : Nat} (a b : OTouch) (hx : ev ρ x = .agg (ocells a).toArray) (hy : ev ρ y = .agg (ocells b).toArray) : PV Try.prog (.binOp .neq 56 x y T') ρ (.bool (decide (¬ a.1 = b.1))) :=
  Zf7 (m := 4) hx hy (by kernel_rfl) (by omega) (by kernel_rfl) (tform a) (tform b) (tlits_is a.1 a.2) (tlits_is b.1 b.2) (tlits_inj a.1 b.1)
attribute [local irreducible] ocells
theorem sameLog_x {L : List Asrt} {va vb : Value} {a b : List OTouch} (ha : Rd L 15 va a.length (a.flatMap ocells)) (hb : Rd L 15 vb b.length (b.flatMap ocells)) (hal : a.length ≤ 9223372036854775807) (hbl : b.length ≤ 9223372036854775807) :
    Con Try.prog 19 [va, vb] L (fun r M => r = .bool (decide (a.map (·.1) = b.map (·.1))) ∧ M = L) := by
  refine Con.get (fun w0 w F H => ha.len H) ?_
  rintro ⟨aa, ac, rfl⟩
  refine Con.get (fun w0 w F H => hb.len H) ?_
  rintro ⟨ba, bc, rfl⟩
  by_cases hl : a.length = b.length
  · refine fn_x Try.func19 rfl rfl rfl Try.mixed (by kernel_rfl) ?_
    intro w0
    refine Ct.o ?_
    refine Zgb ?_
    first|refine Zhg (Za0 rfl) ?_|refine Zhg (Zas rfl) ?_
    refine Zg3 ?_
    refine Ct.o ?_
    refine Zgb ?_
    first|refine Zhg (Zaw rfl) ?_|refine Zhg (Zar rfl) ?_
    first|refine Zhg (Zcr rfl) ?_|refine Zhg (Zct) ?_|refine Zhg (Zcu rfl) ?_
    first|refine Zhg (Zaw rfl) ?_|refine Zhg (Zar rfl) ?_
    first|refine Zhg (Zcr rfl) ?_|refine Zhg (Zct) ?_|refine Zhg (Zcu rfl) ?_
    first|refine Zhg (Zmk rfl rfl) ?_|refine Zhg (Zbs rfl rfl) ?_
    refine Zhn 10 rfl (decide_eq_false ((fun h => h hl))) ?_
    refine Zg3 ?_
    refine Ct.o ?_
    refine Zgf rfl ?_
    refine Ct.o ?_
    refine Zgb ?_
    first|refine Zhg (Zaz rfl) ?_|refine Zhg (Zas rfl) ?_
    refine Zg3 ?_
    refine Ct.o ?_
    refine Zgo [(4, 5), (11, 25)] (by kernel_rfl) (fun i : Nat => i ≤ a.length ∧ (a.take i).map (·.1) = (b.take i).map (·.1)) (fun _ => L) (fun i => [(5, nvv i)]) (fun i => a.length - i) 0 ⟨Nat.zero_le _, rfl⟩ qI ⟨rfl, trivial⟩ ?_
    rintro i u ⟨hi, he⟩
    refine Ct.o ?_
    refine Zgb ?_
    first|refine Zhg (Zat rfl) ?_|refine Zhg (Zar rfl) ?_
    first|refine Zhg (Zaw rfl) ?_|refine Zhg (Zar rfl) ?_
    first|refine Zhg (Zcr rfl) ?_|refine Zhg (Zct) ?_|refine Zhg (Zcu rfl) ?_
    first|refine Zhg (Zmf rfl rfl) ?_|refine Zhg (Zbn rfl rfl) ?_
    refine Zg3 ?_
    refine Ct.o ?_
    refine Zgg rfl (fun hB => ?_) (fun hB => ?_)
    · have hib : i < b.length := by omega
      refine Zgt (fun F w H => ha.someAt (by omega) H) ?_
      rintro ⟨a1, a2, rfl⟩
      refine Zgt (fun F w H => hb.someAt (by omega) H) ?_
      rintro ⟨b1, b2, rfl⟩
      have e1 : (a.take (i + 1)).map (·.1) = (a.take i).map (·.1) ++ [a[i].1] := by rw [List.take_succ_eq_append_getElem hB, List.map_append]; rfl
      have e2 : (b.take (i + 1)).map (·.1) = (b.take i).map (·.1) ++ [b[i].1] := by rw [List.take_succ_eq_append_getElem hib, List.map_append]; rfl
      by_cases heq : a[i].1 = b[i].1
      · refine Ct.o ?_
        refine Zij (_) [7] (.q 0 (.q 1 (.q 2 (.q 4 (.q 5 (.q 6 (.r 3 (.r 7 (.q 8 .nil))))))))) (by kernel_rfl) (by kernel_rfl) (Imp.refl _) ?_
        first|refine Zim rfl (Zaw rfl) ?_|refine Zim rfl (Zar rfl) ?_
        first|refine Zim rfl (Zat rfl) ?_|refine Zim rfl (Zar rfl) ?_
        first|refine Zim rfl (Zl6 rfl rfl) ?_|refine Zim rfl (Zcg rfl rfl) ?_
        first|refine Zim rfl (Zaw rfl) ?_|refine Zim rfl (Zar rfl) ?_
        first|refine Zim rfl (Zat rfl) ?_|refine Zim rfl (Zar rfl) ?_
        first|refine Zim rfl (Zl6 rfl rfl) ?_|refine Zim rfl (Zcg rfl rfl) ?_
        refine Zfj rfl rfl (ha.agN ocells_len (by omega) hB) ?_
        refine Zfj rfl rfl (hb.agN ocells_len (by omega) hib) ?_
        refine Zim rfl (pv_neq_touch a[i] b[i] rfl rfl) ?_
        refine Zi6 25 rfl (decide_eq_false ((fun h => h heq))) ?_
        refine Zik ?_
        refine Ct.o ?_
        refine Zgf rfl ?_
        refine Ct.o ?_
        refine Zgb ?_
        first|refine Zhg (Zat rfl) ?_|refine Zhg (Zar rfl) ?_
        first|refine Zhg (Zma (b := 1) rfl rfl) ?_|refine Zhg (Zbg rfl rfl) ?_
        first|refine Zhg (Zaz rfl) ?_|refine Zhg (Zas rfl) ?_
        refine Zg3 ?_
        refine Ct.o ?_
        exact Zgl (i + 1) qO ⟨by omega, by rw [e1, e2, he, heq]⟩ qI ⟨rfl, trivial⟩
      · refine Ct.o ?_
        refine Zij (_) [7] (.q 0 (.q 1 (.q 2 (.q 4 (.q 5 (.q 6 (.r 3 (.r 7 (.q 8 .nil))))))))) (by kernel_rfl) (by kernel_rfl) (Imp.refl _) ?_
        first|refine Zim rfl (Zaw rfl) ?_|refine Zim rfl (Zar rfl) ?_
        first|refine Zim rfl (Zat rfl) ?_|refine Zim rfl (Zar rfl) ?_
        first|refine Zim rfl (Zl6 rfl rfl) ?_|refine Zim rfl (Zcg rfl rfl) ?_
        first|refine Zim rfl (Zaw rfl) ?_|refine Zim rfl (Zar rfl) ?_
        first|refine Zim rfl (Zat rfl) ?_|refine Zim rfl (Zar rfl) ?_
        first|refine Zim rfl (Zl6 rfl rfl) ?_|refine Zim rfl (Zcg rfl rfl) ?_
        refine Zfj rfl rfl (ha.agN ocells_len (by omega) hB) ?_
        refine Zfj rfl rfl (hb.agN ocells_len (by omega) hib) ?_
        refine Zim rfl (pv_neq_touch a[i] b[i] rfl rfl) ?_
        refine Zi5 25 rfl (decide_eq_true (heq)) ?_
        refine Zik ?_
        refine Ct.o ?_
        refine Zge rfl ?_
        refine Ct.o ?_
        refine Zgb ?_
        first|refine Zhg (Za0 rfl) ?_|refine Zhg (Zas rfl) ?_
        refine Zg3 ?_
        refine Ct.o ?_
        refine rx1 (Zha rfl (Zg7)) ?_
        refine ⟨_, ⟨?_, rfl⟩, qI⟩
        rw [decide_eq_false]
        intro h
        have h2 : (a.map (·.1))[i]? = (b.map (·.1))[i]? := by rw [h]
        rw [List.getElem?_map, List.getElem?_map, List.getElem?_eq_getElem hB, List.getElem?_eq_getElem hib] at h2
        exact heq (Option.some.inj h2)
    · have hie : i = a.length := by omega
      subst hie
      rw [List.take_length, List.take_of_length_le (by omega)] at he
      refine Ct.o ?_
      refine Zgb ?_
      first|refine Zhg (Za0 rfl) ?_|refine Zhg (Zas rfl) ?_
      refine Zg3 ?_
      refine Ct.o ?_
      refine rx1 (Zha rfl (Zg7)) ?_
      exact ⟨_, ⟨by rw [decide_eq_true he], rfl⟩, qI⟩
  · refine fn_x Try.func19 rfl rfl rfl Try.mixed (by kernel_rfl) ?_
    intro w0
    refine Ct.o ?_
    refine Zgb ?_
    first|refine Zhg (Za0 rfl) ?_|refine Zhg (Zas rfl) ?_
    refine Zg3 ?_
    refine Ct.o ?_
    refine Zgb ?_
    first|refine Zhg (Zaw rfl) ?_|refine Zhg (Zar rfl) ?_
    first|refine Zhg (Zcr rfl) ?_|refine Zhg (Zct) ?_|refine Zhg (Zcu rfl) ?_
    first|refine Zhg (Zaw rfl) ?_|refine Zhg (Zar rfl) ?_
    first|refine Zhg (Zcr rfl) ?_|refine Zhg (Zct) ?_|refine Zhg (Zcu rfl) ?_
    first|refine Zhg (Zmk rfl rfl) ?_|refine Zhg (Zbs rfl rfl) ?_
    refine Zhm 10 rfl (decide_eq_true (hl)) ?_
    refine Zg3 ?_
    refine Ct.o ?_
    refine Zge rfl ?_
    refine Ct.o ?_
    refine Zgb ?_
    first|refine Zhg (Za0 rfl) ?_|refine Zhg (Zas rfl) ?_
    refine Zg3 ?_
    refine Ct.o ?_
    refine rx1 (Zha rfl (Zg7)) ?_
    refine ⟨_, ⟨?_, rfl⟩, qI⟩
    rw [decide_eq_false]
    intro h
    have := congrArg List.length h
    rw [List.length_map, List.length_map] at this
    exact hl this
def spoilsF (f : HostS.Fault) : Bool := decide (f.kind = 0 ∨ f.kind = 1 ∨ f.kind = 2)
theorem spoils_x (f : HostS.Fault) : Con Try.prog 8 [.agg (fcells f).toArray] [] (fun r M => r = .bool (spoilsF f) ∧ M = []) := by
  unfold spoilsF
  by_cases h0 : f.kind = 0
  · rw [decide_eq_true (.inl h0)]
    refine fn_x Try.func8 rfl rfl rfl Try.mixed (by kernel_rfl) ?_
    intro w0
    refine Ct.o ?_
    refine Zgb ?_
    refine Zh5 rfl ?_; intro b1
    first|refine Zhg (Za0 rfl) ?_|refine Zhg (Zas rfl) ?_
    refine Zg3 ?_
    refine Ct.o ?_
    refine Zgb ?_
    first|refine Zhg (Zl8 rfl) ?_|refine Zhg (Zce rfl) ?_
    refine Zhp rfl qH rfl ?_
    refine Zhg (Zbr (b := 0) rfl rfl) ?_
    refine Zhm 5 rfl (decide_eq_true (h0)) ?_
    first|refine Zhg (Zau rfl) ?_|refine Zhg (Zar rfl) ?_
    first|refine Zhi rfl ?_|refine Zhj rfl ?_|(refine Zhh rfl ?_; (first|refine Zhg (Zl8 rfl) ?_|refine Zhg (Zce rfl) ?_))
    first|refine Zhi rfl ?_|refine Zhj rfl ?_|(refine Zhh rfl ?_; (refine Zhp rfl qH rfl ?_))
    first|refine Zhi rfl ?_|refine Zhj rfl ?_|(refine Zhh rfl ?_; (first|refine Zhg (Zmj (b := 1) rfl rfl) ?_|refine Zhg (Zbr rfl rfl) ?_))
    first|refine Zhg (Zdz rfl rfl) ?_|refine Zhg (Zd0 rfl rfl) ?_|refine Zhg (Za8 rfl rfl) ?_|refine Zhg (Za9 rfl rfl) ?_|refine Zhg (Za6 rfl rfl) ?_|refine Zhg (Za7 rfl rfl) ?_
    first|refine Zhg (Zau rfl) ?_|refine Zhg (Zar rfl) ?_
    first|refine Zhi rfl ?_|refine Zhj rfl ?_|(refine Zhh rfl ?_; (first|refine Zhg (Zl8 rfl) ?_|refine Zhg (Zce rfl) ?_))
    first|refine Zhi rfl ?_|refine Zhj rfl ?_|(refine Zhh rfl ?_; (refine Zhp rfl qH rfl ?_))
    first|refine Zhi rfl ?_|refine Zhj rfl ?_|(refine Zhh rfl ?_; (first|refine Zhg (Zmj (b := 2) rfl rfl) ?_|refine Zhg (Zbr rfl rfl) ?_))
    first|refine Zhg (Zdz rfl rfl) ?_|refine Zhg (Zd0 rfl rfl) ?_|refine Zhg (Za8 rfl rfl) ?_|refine Zhg (Za9 rfl rfl) ?_|refine Zhg (Za6 rfl rfl) ?_|refine Zhg (Za7 rfl rfl) ?_
    first|refine Zhg (Za0 rfl) ?_|refine Zhg (Zas rfl) ?_
    refine Zg3 ?_
    refine Ct.o ?_
    refine rx1 (Zha rfl (Zg7)) ?_
    exact ⟨_, ⟨rfl, rfl⟩, qI⟩
  · by_cases h1 : f.kind = 1
    · rw [decide_eq_true (.inr (.inl h1))]
      refine fn_x Try.func8 rfl rfl rfl Try.mixed (by kernel_rfl) ?_
      intro w0
      refine Ct.o ?_
      refine Zgb ?_
      refine Zh5 rfl ?_; intro b1
      first|refine Zhg (Za0 rfl) ?_|refine Zhg (Zas rfl) ?_
      refine Zg3 ?_
      refine Ct.o ?_
      refine Zgb ?_
      first|refine Zhg (Zl8 rfl) ?_|refine Zhg (Zce rfl) ?_
      refine Zhp rfl qH rfl ?_
      refine Zhg (Zbr (b := 0) rfl rfl) ?_
      refine Zhn 5 rfl (decide_eq_false (h0)) ?_
      first|refine Zhg (Zau rfl) ?_|refine Zhg (Zar rfl) ?_
      first|refine Zhi rfl ?_|refine Zhj rfl ?_|(refine Zhh rfl ?_; (first|refine Zhg (Zl8 rfl) ?_|refine Zhg (Zce rfl) ?_))
      first|refine Zhi rfl ?_|refine Zhj rfl ?_|(refine Zhh rfl ?_; (refine Zhp rfl qH rfl ?_))
      first|refine Zhi rfl ?_|refine Zhj rfl ?_|(refine Zhh rfl ?_; (refine Zhg (Zbr (b := 1) rfl rfl) ?_))
      refine Zhm 9 rfl (decide_eq_true (h1)) ?_
      first|refine Zhg (Zdz rfl rfl) ?_|refine Zhg (Zd0 rfl rfl) ?_|refine Zhg (Za8 rfl rfl) ?_|refine Zhg (Za9 rfl rfl) ?_|refine Zhg (Za6 rfl rfl) ?_|refine Zhg (Za7 rfl rfl) ?_
      first|refine Zhg (Zau rfl) ?_|refine Zhg (Zar rfl) ?_
      first|refine Zhi rfl ?_|refine Zhj rfl ?_|(refine Zhh rfl ?_; (first|refine Zhg (Zl8 rfl) ?_|refine Zhg (Zce rfl) ?_))
      first|refine Zhi rfl ?_|refine Zhj rfl ?_|(refine Zhh rfl ?_; (refine Zhp rfl qH rfl ?_))
      first|refine Zhi rfl ?_|refine Zhj rfl ?_|(refine Zhh rfl ?_; (first|refine Zhg (Zmj (b := 2) rfl rfl) ?_|refine Zhg (Zbr rfl rfl) ?_))
      first|refine Zhg (Zdz rfl rfl) ?_|refine Zhg (Zd0 rfl rfl) ?_|refine Zhg (Za8 rfl rfl) ?_|refine Zhg (Za9 rfl rfl) ?_|refine Zhg (Za6 rfl rfl) ?_|refine Zhg (Za7 rfl rfl) ?_
      first|refine Zhg (Za0 rfl) ?_|refine Zhg (Zas rfl) ?_
      refine Zg3 ?_
      refine Ct.o ?_
      refine rx1 (Zha rfl (Zg7)) ?_
      exact ⟨_, ⟨rfl, rfl⟩, qI⟩
    · by_cases h2 : f.kind = 2
      · rw [decide_eq_true (.inr (.inr h2))]
        refine fn_x Try.func8 rfl rfl rfl Try.mixed (by kernel_rfl) ?_
        intro w0
        refine Ct.o ?_
        refine Zgb ?_
        refine Zh5 rfl ?_; intro b1
        first|refine Zhg (Za0 rfl) ?_|refine Zhg (Zas rfl) ?_
        refine Zg3 ?_
        refine Ct.o ?_
        refine Zgb ?_
        first|refine Zhg (Zl8 rfl) ?_|refine Zhg (Zce rfl) ?_
        refine Zhp rfl qH rfl ?_
        refine Zhg (Zbr (b := 0) rfl rfl) ?_
        refine Zhn 5 rfl (decide_eq_false (h0)) ?_
        first|refine Zhg (Zau rfl) ?_|refine Zhg (Zar rfl) ?_
        first|refine Zhi rfl ?_|refine Zhj rfl ?_|(refine Zhh rfl ?_; (first|refine Zhg (Zl8 rfl) ?_|refine Zhg (Zce rfl) ?_))
        first|refine Zhi rfl ?_|refine Zhj rfl ?_|(refine Zhh rfl ?_; (refine Zhp rfl qH rfl ?_))
        first|refine Zhi rfl ?_|refine Zhj rfl ?_|(refine Zhh rfl ?_; (refine Zhg (Zbr (b := 1) rfl rfl) ?_))
        refine Zhn 9 rfl (decide_eq_false (h1)) ?_
        first|refine Zhg (Zdz rfl rfl) ?_|refine Zhg (Zd0 rfl rfl) ?_|refine Zhg (Za8 rfl rfl) ?_|refine Zhg (Za9 rfl rfl) ?_|refine Zhg (Za6 rfl rfl) ?_|refine Zhg (Za7 rfl rfl) ?_
        first|refine Zhg (Zau rfl) ?_|refine Zhg (Zar rfl) ?_
        first|refine Zhi rfl ?_|refine Zhj rfl ?_|(refine Zhh rfl ?_; (first|refine Zhg (Zl8 rfl) ?_|refine Zhg (Zce rfl) ?_))
        first|refine Zhi rfl ?_|refine Zhj rfl ?_|(refine Zhh rfl ?_; (refine Zhp rfl qH rfl ?_))
        first|refine Zhi rfl ?_|refine Zhj rfl ?_|(refine Zhh rfl ?_; (refine Zhg (Zbr (b := 2) rfl rfl) ?_))
        refine Zhm 14 rfl (decide_eq_true (h2)) ?_
        first|refine Zhg (Zdz rfl rfl) ?_|refine Zhg (Zd0 rfl rfl) ?_|refine Zhg (Za8 rfl rfl) ?_|refine Zhg (Za9 rfl rfl) ?_|refine Zhg (Za6 rfl rfl) ?_|refine Zhg (Za7 rfl rfl) ?_
        first|refine Zhg (Za0 rfl) ?_|refine Zhg (Zas rfl) ?_
        refine Zg3 ?_
        refine Ct.o ?_
        refine rx1 (Zha rfl (Zg7)) ?_
        exact ⟨_, ⟨rfl, rfl⟩, qI⟩
      · rw [decide_eq_false (fun h => by rcases h with h|h|h <;> contradiction)]
        refine fn_x Try.func8 rfl rfl rfl Try.mixed (by kernel_rfl) ?_
        intro w0
        refine Ct.o ?_
        refine Zgb ?_
        refine Zh5 rfl ?_; intro b1
        first|refine Zhg (Za0 rfl) ?_|refine Zhg (Zas rfl) ?_
        refine Zg3 ?_
        refine Ct.o ?_
        refine Zgb ?_
        first|refine Zhg (Zl8 rfl) ?_|refine Zhg (Zce rfl) ?_
        refine Zhp rfl qH rfl ?_
        refine Zhg (Zbr (b := 0) rfl rfl) ?_
        refine Zhn 5 rfl (decide_eq_false (h0)) ?_
        first|refine Zhg (Zau rfl) ?_|refine Zhg (Zar rfl) ?_
        first|refine Zhi rfl ?_|refine Zhj rfl ?_|(refine Zhh rfl ?_; (first|refine Zhg (Zl8 rfl) ?_|refine Zhg (Zce rfl) ?_))
        first|refine Zhi rfl ?_|refine Zhj rfl ?_|(refine Zhh rfl ?_; (refine Zhp rfl qH rfl ?_))
        first|refine Zhi rfl ?_|refine Zhj rfl ?_|(refine Zhh rfl ?_; (refine Zhg (Zbr (b := 1) rfl rfl) ?_))
        refine Zhn 9 rfl (decide_eq_false (h1)) ?_
        first|refine Zhg (Zdz rfl rfl) ?_|refine Zhg (Zd0 rfl rfl) ?_|refine Zhg (Za8 rfl rfl) ?_|refine Zhg (Za9 rfl rfl) ?_|refine Zhg (Za6 rfl rfl) ?_|refine Zhg (Za7 rfl rfl) ?_
        first|refine Zhg (Zau rfl) ?_|refine Zhg (Zar rfl) ?_
        first|refine Zhi rfl ?_|refine Zhj rfl ?_|(refine Zhh rfl ?_; (first|refine Zhg (Zl8 rfl) ?_|refine Zhg (Zce rfl) ?_))
        first|refine Zhi rfl ?_|refine Zhj rfl ?_|(refine Zhh rfl ?_; (refine Zhp rfl qH rfl ?_))
        first|refine Zhi rfl ?_|refine Zhj rfl ?_|(refine Zhh rfl ?_; (refine Zhg (Zbr (b := 2) rfl rfl) ?_))
        refine Zhn 14 rfl (decide_eq_false (h2)) ?_
        first|refine Zhg (Zdz rfl rfl) ?_|refine Zhg (Zd0 rfl rfl) ?_|refine Zhg (Za8 rfl rfl) ?_|refine Zhg (Za9 rfl rfl) ?_|refine Zhg (Za6 rfl rfl) ?_|refine Zhg (Za7 rfl rfl) ?_
        first|refine Zhg (Za0 rfl) ?_|refine Zhg (Zas rfl) ?_
        refine Zg3 ?_
        refine Ct.o ?_
        refine rx1 (Zha rfl (Zg7)) ?_
        exact ⟨_, ⟨rfl, rfl⟩, qI⟩
def amongF (op : Int) (f : HostS.Fault) : Bool := decide (f.at_ = op) && spoilsF f
theorem among_x {L : List Asrt} {fv : Value} {l : List HostS.Fault} (op : Int) (h : Rd L 6 fv l.length (l.flatMap fcells)) (hl : l.length ≤ 9223372036854775807) :
    Con Try.prog 14 [fv, .int .i64 op] L (fun r M => r = .bool (l.any (amongF op)) ∧ M = L) := by
  refine Con.get (fun w0 w F H => h.len H) ?_
  rintro ⟨fa, fc, rfl⟩
  refine fn_x Try.func14 rfl rfl rfl Try.mixed (by kernel_rfl) ?_
  intro w0
  refine Ct.o ?_
  refine Zgb ?_
  first|refine Zhg (Za0 rfl) ?_|refine Zhg (Zas rfl) ?_
  refine Zg3 ?_
  refine Ct.o ?_
  refine Zgb ?_
  first|refine Zhg (Zaz rfl) ?_|refine Zhg (Zas rfl) ?_
  refine Zg3 ?_
  refine Ct.o ?_
  refine Zgo [(4, 25)] (by kernel_rfl) (fun i : Nat => i ≤ l.length ∧ (l.take i).any (amongF op) = false) (fun _ => L) (fun i => [(5, nvv i)]) (fun i => l.length - i) 0 ⟨Nat.zero_le _, rfl⟩ qI ⟨rfl, trivial⟩ ?_
  rintro i u ⟨hi, he⟩
  refine Ct.o ?_
  refine Zgb ?_
  first|refine Zhg (Zat rfl) ?_|refine Zhg (Zar rfl) ?_
  first|refine Zhg (Zaw rfl) ?_|refine Zhg (Zar rfl) ?_
  first|refine Zhg (Zcr rfl) ?_|refine Zhg (Zct) ?_|refine Zhg (Zcu rfl) ?_
  first|refine Zhg (Zmf rfl rfl) ?_|refine Zhg (Zbn rfl rfl) ?_
  refine Zg3 ?_
  refine Ct.o ?_
  refine Zgg rfl (fun hB => ?_) (fun hB => ?_)
  · refine Zgt (fun F w H => h.someAt (by omega) H) ?_
    rintro ⟨a1, a2, rfl⟩
    have e1 : (l.take (i + 1)).any (amongF op) = ((l.take i).any (amongF op) || amongF op l[i]) := by rw [List.take_succ_eq_append_getElem hB, List.any_append]; simp
    have hit : amongF op l[i] = true → l.any (amongF op) = true := fun h => List.any_eq_true.2 ⟨_, List.getElem_mem hB, h⟩
    by_cases hop : l[i].at_ = op
    · by_cases hsp : spoilsF l[i] = true
      · refine Ct.o ?_
        refine Zgb ?_
        first|refine Zhg (Zaw rfl) ?_|refine Zhg (Zar rfl) ?_
        first|refine Zhg (Zat rfl) ?_|refine Zhg (Zar rfl) ?_
        first|refine Zhg (Zl6 rfl rfl) ?_|refine Zhg (Zcg rfl rfl) ?_
        first|refine Zhg (Zl8 rfl) ?_|refine Zhg (Zce rfl) ?_
        refine Zff rfl ((h.atN fcells_len hB (by omega) rfl)) ?_
        first|refine Zhg (Zat rfl) ?_|refine Zhg (Zar rfl) ?_
        refine Zhg (Zbr (b := op) rfl rfl) ?_
        refine Zhm 18 rfl (decide_eq_true (hop)) ?_
        first|refine Zhg (Zau rfl) ?_|refine Zhg (Zar rfl) ?_
        first|refine Zhi rfl ?_|refine Zhj rfl ?_|(refine Zhh rfl ?_; (first|refine Zhg (Zaw rfl) ?_|refine Zhg (Zar rfl) ?_))
        first|refine Zhi rfl ?_|refine Zhj rfl ?_|(refine Zhh rfl ?_; (first|refine Zhg (Zat rfl) ?_|refine Zhg (Zar rfl) ?_))
        first|refine Zhi rfl ?_|refine Zhj rfl ?_|(refine Zhh rfl ?_; (first|refine Zhg (Zl6 rfl rfl) ?_|refine Zhg (Zcg rfl rfl) ?_))
        first|refine Zhi rfl ?_|refine Zhj rfl ?_|(refine Zhh rfl ?_; (refine Zfg rfl (h.agN fcells_len (by omega) hB) ?_))
        first|refine Zhi rfl ?_|refine Zhj rfl ?_|(refine Zhh rfl ?_; (refine Zh8 rfl (by kernel_rfl) (spoils_x l[i]) rfl qT ?_); (rintro _ _ ⟨rfl, rfl⟩); (refine Zg2 qA ?_))
        refine Zhm 24 rfl (hsp) ?_
        first|refine Zhg (Zdz rfl rfl) ?_|refine Zhg (Zd0 rfl rfl) ?_|refine Zhg (Za8 rfl rfl) ?_|refine Zhg (Za9 rfl rfl) ?_|refine Zhg (Za6 rfl rfl) ?_|refine Zhg (Za7 rfl rfl) ?_
        refine Zg3 ?_
        refine Ct.o ?_
        refine Zge rfl ?_
        refine Ct.o ?_
        refine Zgb ?_
        first|refine Zhg (Za0 rfl) ?_|refine Zhg (Zas rfl) ?_
        refine Zg3 ?_
        refine Ct.o ?_
        refine rx1 (Zha rfl (Zg7)) ?_
        exact ⟨_, ⟨by rw [hit (by unfold amongF; rw [hsp, decide_eq_true hop]; rfl)], rfl⟩, qI⟩
      · have hsp : spoilsF l[i] = false := by simpa using hsp
        refine Ct.o ?_
        refine Zgb ?_
        first|refine Zhg (Zaw rfl) ?_|refine Zhg (Zar rfl) ?_
        first|refine Zhg (Zat rfl) ?_|refine Zhg (Zar rfl) ?_
        first|refine Zhg (Zl6 rfl rfl) ?_|refine Zhg (Zcg rfl rfl) ?_
        first|refine Zhg (Zl8 rfl) ?_|refine Zhg (Zce rfl) ?_
        refine Zff rfl ((h.atN fcells_len hB (by omega) rfl)) ?_
        first|refine Zhg (Zat rfl) ?_|refine Zhg (Zar rfl) ?_
        refine Zhg (Zbr (b := op) rfl rfl) ?_
        refine Zhm 18 rfl (decide_eq_true (hop)) ?_
        first|refine Zhg (Zau rfl) ?_|refine Zhg (Zar rfl) ?_
        first|refine Zhi rfl ?_|refine Zhj rfl ?_|(refine Zhh rfl ?_; (first|refine Zhg (Zaw rfl) ?_|refine Zhg (Zar rfl) ?_))
        first|refine Zhi rfl ?_|refine Zhj rfl ?_|(refine Zhh rfl ?_; (first|refine Zhg (Zat rfl) ?_|refine Zhg (Zar rfl) ?_))
        first|refine Zhi rfl ?_|refine Zhj rfl ?_|(refine Zhh rfl ?_; (first|refine Zhg (Zl6 rfl rfl) ?_|refine Zhg (Zcg rfl rfl) ?_))
        first|refine Zhi rfl ?_|refine Zhj rfl ?_|(refine Zhh rfl ?_; (refine Zfg rfl (h.agN fcells_len (by omega) hB) ?_))
        first|refine Zhi rfl ?_|refine Zhj rfl ?_|(refine Zhh rfl ?_; (refine Zh8 rfl (by kernel_rfl) (spoils_x l[i]) rfl qT ?_); (rintro _ _ ⟨rfl, rfl⟩); (refine Zg2 qA ?_))
        refine Zhn 24 rfl (hsp) ?_
        first|refine Zhg (Zdz rfl rfl) ?_|refine Zhg (Zd0 rfl rfl) ?_|refine Zhg (Za8 rfl rfl) ?_|refine Zhg (Za9 rfl rfl) ?_|refine Zhg (Za6 rfl rfl) ?_|refine Zhg (Za7 rfl rfl) ?_
        refine Zg3 ?_
        refine Ct.o ?_
        refine Zgf rfl ?_
        refine Ct.o ?_
        refine Zgb ?_
        first|refine Zhg (Zat rfl) ?_|refine Zhg (Zar rfl) ?_
        first|refine Zhg (Zma (b := 1) rfl rfl) ?_|refine Zhg (Zbg rfl rfl) ?_
        first|refine Zhg (Zaz rfl) ?_|refine Zhg (Zas rfl) ?_
        refine Zg3 ?_
        refine Ct.o ?_
        exact Zgl (i + 1) qO ⟨by omega, by rw [e1, he]; unfold amongF; rw [hsp]; simp⟩ qI ⟨rfl, trivial⟩
    · refine Ct.o ?_
      refine Zgb ?_
      first|refine Zhg (Zaw rfl) ?_|refine Zhg (Zar rfl) ?_
      first|refine Zhg (Zat rfl) ?_|refine Zhg (Zar rfl) ?_
      first|refine Zhg (Zl6 rfl rfl) ?_|refine Zhg (Zcg rfl rfl) ?_
      first|refine Zhg (Zl8 rfl) ?_|refine Zhg (Zce rfl) ?_
      refine Zff rfl ((h.atN fcells_len hB (by omega) rfl)) ?_
      first|refine Zhg (Zat rfl) ?_|refine Zhg (Zar rfl) ?_
      refine Zhg (Zbr (b := op) rfl rfl) ?_
      refine Zhn 18 rfl (decide_eq_false (hop)) ?_
      first|refine Zhg (Zau rfl) ?_|refine Zhg (Zar rfl) ?_
      first|refine Zhi rfl ?_|refine Zhj rfl ?_|(refine Zhh rfl ?_; (first|refine Zhg (Zaw rfl) ?_|refine Zhg (Zar rfl) ?_))
      first|refine Zhi rfl ?_|refine Zhj rfl ?_|(refine Zhh rfl ?_; (first|refine Zhg (Zat rfl) ?_|refine Zhg (Zar rfl) ?_))
      first|refine Zhi rfl ?_|refine Zhj rfl ?_|(refine Zhh rfl ?_; (first|refine Zhg (Zl6 rfl rfl) ?_|refine Zhg (Zcg rfl rfl) ?_))
      first|refine Zhi rfl ?_|refine Zhj rfl ?_|(refine Zhh rfl ?_; (first|refine Zhr rfl qH qZ ?_|refine Zhq rfl qH qZ rfl ?_))
      first|refine Zhi rfl ?_|refine Zhj rfl ?_
      first|refine Zhg (Zdz rfl rfl) ?_|refine Zhg (Zd0 rfl rfl) ?_|refine Zhg (Za8 rfl rfl) ?_|refine Zhg (Za9 rfl rfl) ?_|refine Zhg (Za6 rfl rfl) ?_|refine Zhg (Za7 rfl rfl) ?_
      refine Zg3 ?_
      refine Ct.o ?_
      refine Zgf rfl ?_
      refine Ct.o ?_
      refine Zgb ?_
      first|refine Zhg (Zat rfl) ?_|refine Zhg (Zar rfl) ?_
      first|refine Zhg (Zma (b := 1) rfl rfl) ?_|refine Zhg (Zbg rfl rfl) ?_
      first|refine Zhg (Zaz rfl) ?_|refine Zhg (Zas rfl) ?_
      refine Zg3 ?_
      refine Ct.o ?_
      exact Zgl (i + 1) qO ⟨by omega, by rw [e1, he]; unfold amongF; rw [decide_eq_false hop]; simp⟩ qI ⟨rfl, trivial⟩
  · have hie : i = l.length := by omega
    subst hie
    rw [List.take_length] at he
    refine Ct.o ?_
    refine Zgb ?_
    first|refine Zhg (Za0 rfl) ?_|refine Zhg (Zas rfl) ?_
    refine Zg3 ?_
    refine Ct.o ?_
    refine rx1 (Zha rfl (Zg7)) ?_
    exact ⟨_, ⟨by rw [he], rfl⟩, qI⟩
end Go.Sl

/- host: a life with faults, and without those that spoil. No program in sight. -/
set_option linter.unusedVariables false
set_option linter.unusedSimpArgs false
namespace Go.Sl
open Go HostS
/-- The log's touches are such as Go holds. -/
def LogOk (s : HS) : Prop := ∀ t ∈ s.log, TOk t
theorem head12 (b : Bytes) : (headOf b).length = 12 := by simp [headOf]; omega
theorem touch_ok (s : HS) (op page : Int) (b : Bytes) (h : Ok s) (hp : op = 0 ∨ op = 1 → there s page) (ho : 0 ≤ op ∧ op ≤ 3) : TOk (touchOf s op page b) := by
  have h1 := h.p1
  have h2 := h.z1
  unfold touchOf
  split
  · have := hp (.inr (by assumption)); unfold there at this
    exact ⟨by dsimp only; omega, by dsimp only; omega, by dsimp only; omega, head12 b⟩
  · split
    · have := hp (.inl (by assumption)); unfold there at this
      exact ⟨by dsimp only; omega, by dsimp only; omega, by dsimp only; omega, by simp⟩
    · exact ⟨by dsimp only; omega, by dsimp only; omega, by dsimp only; omega, by simp⟩
theorem logok_logged {s : HS} (op page : Int) (b : Bytes) (h : Ok s) (hl : LogOk s) (hp : op = 0 ∨ op = 1 → there s page) (ho : 0 ≤ op ∧ op ≤ 3) : LogOk (logged s op page b) := by
  intro t ht
  simp only [logged, List.mem_append, List.mem_singleton] at ht
  rcases ht with ht|rfl
  · exact hl t ht
  · exact touch_ok s op page b h hp ho
theorem logok_does {s : HS} (op page : Int) (b : Bytes) (act : HS → HS) (ha : ∀ s, (act s).log = s.log) (h : Ok s) (hl : LogOk s) (hp : op = 0 ∨ op = 1 → there s page) (ho : 0 ≤ op ∧ op ≤ 3) : LogOk (does s op page b act).1 := by
  have h1 := logok_logged op page b h hl hp ho
  unfold does
  split
  · exact hl
  · dsimp only
    split
    · exact hl
    · have h2 : LogOk (act (logged s op page b)) := fun t ht => h1 t (by rw [ha] at ht; exact ht)
      split
      · exact h2
      · exact h2
theorem ops_does (s : HS) (op page : Int) (b : Bytes) (act : HS → HS) (ha : ∀ s, (act s).ops = s.ops) : (does s op page b act).1.ops ≤ s.ops + 1 := by
  unfold does
  split
  · dsimp only; omega
  · dsimp only
    split
    · exact Nat.le_refl _
    · have : (act (logged s op page b)).ops = s.ops + 1 := by rw [ha]; rfl
      split
      · exact Nat.le_of_eq this
      · exact Nat.le_of_eq this
theorem told_log {s : HS} (t : Step) (h : Ok s) (hl : LogOk s) : LogOk (toldR s t).2 ∧ (toldR s t).2.ops ≤ s.ops + 1 := by
  have d := fun op page b (act : HS → HS) (ha : ∀ s, (act s).log = s.log) (hb : ∀ s, (act s).ops = s.ops) (hp : op = 0 ∨ op = 1 → there s page) (ho : 0 ≤ op ∧ op ≤ 3) => And.intro (logok_does op page b act ha h hl hp ho) (ops_does s op page b act hb)
  have d0 : LogOk s ∧ s.ops ≤ s.ops + 1 := ⟨hl, by omega⟩
  unfold toldR
  split
  · show LogOk (readR s t.page).2.2 ∧ _
    unfold readR
    split
    · have := d 0 t.page [] id (fun _ => rfl) (fun _ => rfl) (fun _ => by assumption) (by omega)
      dsimp only
      split
      · exact this
      · exact this
    · exact d0
  · split
    · show LogOk (writeR s t.page t.data).2 ∧ _
      unfold writeR
      split
      · split
        · exact d 1 t.page t.data _ (fun _ => rfl) (fun _ => rfl) (fun _ => by assumption) (by omega)
        · exact d0
      · exact d0
    · split
      · show LogOk (askR s).2.2 ∧ _
        unfold askR
        have := d 2 0 [] id (fun _ => rfl) (fun _ => rfl) (fun h => by omega) (by omega)
        dsimp only
        split
        · exact this
        · exact this
      · split
        · show LogOk (raiseR s t.v).2 ∧ _
          exact d 3 0 [] _ (fun _ => rfl) (fun _ => rfl) (fun h => by omega) (by omega)
        · split
          · exact d0
          · split
            · exact d0
            · exact d0
/-- The same host, but for the faults that spoil. -/
structure Tam (s g : HS) : Prop where
  pages : g.pages = s.pages
  size : g.size = s.size
  lay : g.lay = s.lay
  reg : g.reg = s.reg
  coming : g.coming = fun k => (s.coming k).filter fun f => !spoilsF f
  ops : g.ops = s.ops
  log : g.log = s.log
  down : g.down = s.down
theorem spoils_not (f : Fault) (h : f.kind = 3 ∨ f.kind = 4) : spoilsF f = false := by unfold spoilsF; rw [decide_eq_false]; omega
theorem any_filter (l : List Fault) (q : Fault → Bool) (h : ∀ f, q f = true → spoilsF f = false) : (l.filter fun f => !spoilsF f).any q = l.any q := by
  induction l with
  | nil => rfl
  | cons f r ih =>
    rw [List.filter_cons]
    cases hs : spoilsF f with
    | false => simp [ih]
    | true =>
      have : q f = false := by cases hq : q f with|false => rfl|true => rw [h f hq] at hs; cases hs
      simp [this, ih]
theorem before_filter (l : List Fault) : before (l.filter fun f => !spoilsF f) = before l := any_filter l _ (fun f h => spoils_not f (.inl (by simpa using h)))
theorem behind_filter (l : List Fault) : behind (l.filter fun f => !spoilsF f) = behind l := any_filter l _ (fun f h => spoils_not f (.inr (by simpa using h)))
theorem tam_back {s g : HS} (h : Tam s g) (page w : Int) : back g page w = back s page w := by unfold back; rw [h.lay, h.size]
theorem tam_there {s g : HS} (h : Tam s g) (page : Int) : there g page ↔ there s page := by unfold there; rw [h.pages]
theorem tam_touch {s g : HS} (h : Tam s g) (op page : Int) (b : Bytes) : touchOf g op page b = touchOf s op page b := by unfold touchOf; rw [h.size]
theorem tam_logged {s g : HS} (h : Tam s g) (op page : Int) (b : Bytes) : Tam (logged s op page b) (logged g op page b) := by
  refine ⟨h.pages, h.size, h.lay, h.reg, ?_, by show g.ops + 1 = s.ops + 1; rw [h.ops], by show g.log ++ [_] = s.log ++ [_]; rw [h.log, tam_touch h], h.down⟩
  funext k
  show setF g.coming g.ops [] k = (setF s.coming s.ops [] k).filter _
  unfold setF
  rw [h.coming, h.ops]
  split
  · rfl
  · rfl
theorem tam_down {s g : HS} (b : Bool) (h : Tam s g) : Tam { s with down := b } { g with down := b } := ⟨h.pages, h.size, h.lay, h.reg, h.coming, h.ops, h.log, rfl⟩
theorem tam_does {s g : HS} (h : Tam s g) (op page : Int) (b : Bytes) (act : HS → HS) (ha : ∀ s g, Tam s g → Tam (act s) (act g)) : Tam (does s op page b act).1 (does g op page b act).1 ∧ (does g op page b act).2 = (does s op page b act).2 := by
  have e : g.coming g.ops = (s.coming s.ops).filter fun f => !spoilsF f := by rw [h.coming, h.ops]
  unfold does
  rw [h.down, e]
  dsimp only
  rw [before_filter, behind_filter]
  split
  · exact ⟨h, rfl⟩
  · have h2 := tam_logged h op page b
    split
    · refine ⟨?_, rfl⟩
      have : Tam (taken s) (taken g) := by
        refine ⟨h.pages, h.size, h.lay, h.reg, ?_, by show g.ops + 1 = s.ops + 1; rw [h.ops], h.log, h.down⟩
        exact h2.coming
      exact tam_down true this
    · have h3 := ha _ _ h2
      split
      · exact ⟨tam_down true h3, rfl⟩
      · exact ⟨h3, rfl⟩
theorem spoil_none (s : HS) (page : Int) : ∀ (l : List Fault) (b : Bytes), l.any spoilsF = false → l.foldl (spoil1 s page) b = b := by
  intro l
  induction l with
  | nil => intro b _; rfl
  | cons f r ih =>
    intro b h
    simp only [List.any_cons, Bool.or_eq_false_iff] at h
    have hf : ¬ (f.kind = 0 ∨ f.kind = 1 ∨ f.kind = 2) := of_decide_eq_false h.1
    have e : spoil1 s page b f = b := by unfold spoil1; rw [if_neg (by omega), if_neg (by omega), if_neg (by omega)]
    rw [List.foldl_cons, e, ih b h.2]
theorem filter_none (l : List Fault) : (l.filter fun f => !spoilsF f).any spoilsF = false := by
  rw [List.any_eq_false]
  intro f hf
  have := (List.mem_filter.1 hf).2
  simpa using this
/-- What the two are told. -/
structure TamT (s : HS) (t : Step) (R R' : (Bytes × BitVec 64 × Nat) × HS) : Prop where
  st : Tam R.2 R'.2
  v : R'.1.2 = R.1.2
  len : R'.1.1.length = R.1.1.length
  same : ¬ (t.do_ = 1 ∧ (s.coming s.ops).any spoilsF = true) → R'.1.1 = R.1.1
theorem tam_told {s g : HS} (h : Tam s g) (hok : Ok s) (hok2 : Ok g) (t : Step) : TamT s t (toldR s t) (toldR g t) := by
  have e : g.coming g.ops = (s.coming s.ops).filter fun f => !spoilsF f := by rw [h.coming, h.ops]
  have triv : ∀ B v e, TamT s t ((B, v, e), s) ((B, v, e), g) := fun B v e => ⟨h, rfl, rfl, fun _ => rfl⟩
  unfold toldR
  by_cases h1 : t.do_ = 1
  · rw [if_pos h1, if_pos h1]
    unfold readR
    by_cases ht : there s t.page
    · rw [if_pos ht, if_pos ((tam_there h t.page).2 ht)]
      obtain ⟨d1, d2⟩ := tam_does h 0 t.page [] id (fun _ _ h => h)
      dsimp only
      rw [d2]
      by_cases hz : (does s 0 t.page [] id).2 = 0
      · rw [if_pos hz, if_pos hz]
        refine ⟨d1, rfl, ?_, ?_⟩
        · show (spoilt g t.page _).length = (spoilt s t.page _).length
          unfold spoilt
          rw [spoil_len hok2 t.page _ _ (back_len hok2 t.page 0), spoil_len hok t.page _ _ (back_len hok t.page 0), h.size]
        · intro hn
          have hn : (s.coming s.ops).any spoilsF = false := by
            cases ha : (s.coming s.ops).any spoilsF with
            | false => rfl
            | true => exact absurd ⟨h1, ha⟩ hn
          show spoilt g t.page _ = spoilt s t.page _
          unfold spoilt
          rw [e, spoil_none g t.page _ _ (filter_none _), spoil_none s t.page _ _ hn, tam_back h]
      · rw [if_neg hz, if_neg hz]
        exact ⟨d1, rfl, rfl, fun _ => rfl⟩
    · rw [if_neg ht, if_neg (fun hh => ht ((tam_there h t.page).1 hh))]
      exact triv [] 0#64 2
  · rw [if_neg h1, if_neg h1]
    by_cases h2 : t.do_ = 2
    · rw [if_pos h2, if_pos h2]
      unfold writeR
      by_cases ht : there s t.page
      · rw [if_pos ht, if_pos ((tam_there h t.page).2 ht), h.size]
        split
        · obtain ⟨d1, d2⟩ := tam_does h 1 t.page t.data (wrote t.page t.data) (fun s g h => ⟨h.pages, h.size, by show setF _ _ _ = setF _ _ _; rw [h.lay], h.reg, h.coming, h.ops, h.log, h.down⟩)
          dsimp only
          rw [d2]
          exact ⟨d1, rfl, rfl, fun _ => rfl⟩
        · exact triv [] 0#64 4
      · rw [if_neg ht, if_neg (fun hh => ht ((tam_there h t.page).1 hh))]
        exact triv [] 0#64 2
    · rw [if_neg h2, if_neg h2]
      by_cases h3 : t.do_ = 3
      · rw [if_pos h3, if_pos h3]
        unfold askR
        obtain ⟨d1, d2⟩ := tam_does h 2 0 [] id (fun _ _ h => h)
        dsimp only
        rw [d2]
        split
        · exact ⟨d1, by rw [show (does g 2 0 [] id).1.reg = (does s 2 0 [] id).1.reg from d1.reg], rfl, fun _ => rfl⟩
        · exact ⟨d1, rfl, rfl, fun _ => rfl⟩
      · rw [if_neg h3, if_neg h3]
        by_cases h4 : t.do_ = 4
        · rw [if_pos h4, if_pos h4]
          unfold raiseR
          obtain ⟨d1, d2⟩ := tam_does h 3 0 [] (HostS.raised t.v) (fun s g h => ⟨h.pages, h.size, h.lay, by show bmax _ _ = bmax _ _; rw [h.reg], h.coming, h.ops, h.log, h.down⟩)
          dsimp only
          rw [d2, h.reg]
          exact ⟨d1, rfl, rfl, fun _ => rfl⟩
        · rw [if_neg h4, if_neg h4]
          by_cases h5 : t.do_ = 5
          · rw [if_pos h5, if_pos h5]
            exact ⟨tam_down false h, rfl, rfl, fun _ => rfl⟩
          · rw [if_neg h5, if_neg h5]
            by_cases h7 : t.do_ = 7
            · rw [if_pos h7, if_pos h7]
              have : liesR g t.page = liesR s t.page := by unfold liesR; rw [tam_back h]; simp only [tam_there h]
              rw [this]
              exact triv _ _ _
            · rw [if_neg h7, if_neg h7]
              exact triv _ _ _
/-- What is to come is what was to come. -/
def Later (fl : List Fault) (s : HS) : Prop := ∀ k : Int, (s.ops : Int) ≤ k → s.coming k = comes fl k
theorem later_does {fl : List Fault} {s : HS} (h : Later fl s) (op page : Int) (b : Bytes) (act : HS → HS) (ha : ∀ s, (act s).coming = s.coming ∧ (act s).ops = s.ops) : Later fl (does s op page b act).1 := by
  have ht : ∀ k : Int, ((s.ops + 1 : Nat) : Int) ≤ k → setF s.coming s.ops [] k = comes fl k := fun k hk => by
    unfold setF; rw [if_neg (by omega)]; exact h k (by omega)
  unfold does
  split
  · exact h
  · dsimp only
    split
    · exact ht
    · have h2 : Later fl (act (logged s op page b)) := fun k hk => by
        rw [(ha _).2] at hk; rw [(ha _).1]; exact ht k hk
      split
      · exact h2
      · exact h2
theorem later_told {fl : List Fault} {s : HS} (h : Later fl s) (t : Step) : Later fl (toldR s t).2 := by
  have d := fun op page b act ha => later_does h op page b act ha
  unfold toldR
  split
  · show Later fl (readR s t.page).2.2
    unfold readR
    split
    · dsimp only
      split <;> exact d 0 t.page [] id (fun _ => ⟨rfl, rfl⟩)
    · exact h
  · split
    · show Later fl (writeR s t.page t.data).2
      unfold writeR
      split
      · split
        · exact d 1 t.page t.data _ (fun _ => ⟨rfl, rfl⟩)
        · exact h
      · exact h
    · split
      · show Later fl (askR s).2.2
        unfold askR
        dsimp only
        split <;> exact d 2 0 [] id (fun _ => ⟨rfl, rfl⟩)
      · split
        · show Later fl (raiseR s t.v).2
          exact d 3 0 [] _ (fun _ => ⟨rfl, rfl⟩)
        · split
          · exact h
          · split
            · exact h
            · exact h
theorem among_is {fl : List Fault} {s : HS} (h : Later fl s) : fl.any (amongF s.ops) = (s.coming s.ops).any spoilsF := by
  rw [h s.ops (by omega)]
  unfold comes
  rw [List.any_filter]
  congr 1
theorem tam_fresh (pages : Int) (size : Nat) (fl : List Fault) : Tam (fresh pages size fl) (fresh pages size (fl.filter fun f => !spoilsF f)) := by
  refine ⟨rfl, rfl, rfl, rfl, ?_, rfl, rfl, rfl⟩
  funext k
  show (List.filter _ _).filter _ = (List.filter _ _).filter _
  rw [List.filter_filter, List.filter_filter]
  congr 1
  funext f
  exact Bool.and_comm _ _
end Go.Sl

/- slices of bytes read: a piece of a block, its front, the whole; a slice with its room. -/
set_option maxHeartbeats 4000000
set_option maxRecDepth 10000
set_option linter.unusedVariables false
set_option linter.unusedSimpArgs false
namespace Go.Sl
open Go Go.Proofs
attribute [local irreducible] cl pt own old pur ex all den denOps denS xOps xC cX CX xthen xblk xcut xloop xgo xng retX resX Calls PV Rd Con
theorem bs_piece {M M' : List Asrt} {b E : Nat} {l : List Byte} {o n c : Nat} (hm : Has M (cl b (l.map u8b).toArray E) M') (hl : o + n ≤ l.length) (hc : n ≤ c) (hcm : c ≤ 9223372036854775807) : Bs M (.slice (some ⟨b, o, none⟩) n c) ((l.drop o).take n) := by
  have hn : ((l.drop o).take n).length = n := by simp; omega
  have := Bs.cl (M := M) (b := b) (o := o) (c := c) (l := (l.drop o).take n) hm (by simp [hn]; omega) (by
    rw [hn]; simp only [Array.toList_extract, List.extract_eq_take_drop, Nat.add_sub_cancel_left]
    rw [List.map_take, List.map_drop]) (by omega) hcm
  rwa [hn] at this
theorem bs_full {M M' : List Asrt} {b E : Nat} {l : List Byte} {n : Nat} (hm : Has M (cl b (l.map u8b).toArray E) M') (hn : l.length = n) (hc : n ≤ 9223372036854775807) : Bs M (.slice (some ⟨b, 0, none⟩) n n) l := by
  have := bs_piece (o := 0) (n := n) (c := n) hm (by omega) (by omega) hc
  rwa [List.drop_zero, List.take_of_length_le (by omega)] at this
theorem bs_front {M M' : List Asrt} {g n c E : Nat} {l t : List Byte} (hm : Has M (cl g ((l ++ t).map u8b).toArray E) M') (hn : l.length = n) (hc : n ≤ c) (hcm : c ≤ 9223372036854775807) : Bs M (.slice (some ⟨g, 0, none⟩) n c) l := by
  subst hn
  exact Bs.cl (o := 0) hm (by simp) (by
    simp only [Array.toList_extract, List.extract_eq_take_drop]
    rw [Nat.zero_add, Nat.sub_zero, List.drop_zero, ← List.map_take, List.take_append_of_le_length (Nat.le_refl _), List.take_length]) hc hcm
theorem bs_own {M M' : List Asrt} {E n : Nat} {v : Value} {l : List Byte} (hm : Has M (own E 1 v n (l.map u8b)) M') (hn : l.length = n) : Bs M v l := by subst hn; exact Bs.own hm
end Go.Sl

/- trystlaw11: faults, awake, walked. -/
set_option maxHeartbeats 4000000
set_option maxRecDepth 10000
set_option linter.unusedVariables false
set_option linter.unusedSimpArgs false
namespace Go.Sl
open Go Go.Proofs
attribute [local irreducible] cl pt own old pur ex all den denOps denS xOps xC cX CX xthen xblk xcut xloop xgo xng retX resX Calls PV Rd Con
attribute [local irreducible] hostA
theorem fc_one (f : HostS.Fault) : (fcells f).all oneC = true := rfl
theorem fc_ones (l : List HostS.Fault) : (l.flatMap fcells).all oneC = true := by
  rw [List.all_eq_true]
  intro v hv
  obtain ⟨f, _, hv⟩ := List.mem_flatMap.1 hv
  exact List.all_eq_true.1 (fc_one f) v hv
def exF (i : Nat) : HostS.Fault := ⟨i, 3, 0, 0, 0#8, 0⟩
def exL (i : Nat) : List HostS.Fault := (List.range i).map exF
theorem exL_len (i : Nat) : (exL i).length = i := by simp [exL]
theorem exL_succ (i : Nat) : exL (i + 1) = exL i ++ [exF i] := by simp [exL, List.range_succ]
theorem faults_x {L : List Asrt} {fv : Value} {l : List HostS.Fault} (h : Rd L 6 fv l.length (l.flatMap fcells)) (hl : l.length * 48 ≤ 140737488351232) :
    Con Try.prog 10 [fv] L (fun r M => ∃ a c, r = .slice a l.length c ∧ M = own 28 6 (.slice a (l ++ exL 5).length c) (l ++ exL 5).length ((l ++ exL 5).flatMap fcells) :: L) := by
  refine Con.get (fun w0 w F H => h.len H) ?_
  rintro ⟨fa, fc, rfl⟩
  refine fn_x Try.func10 rfl rfl rfl Try.mixed (by kernel_rfl) ?_
  intro w0
  refine Ct.o ?_
  refine Zgb ?_
  first|refine Zhg (Za2 rfl) ?_|refine Zhg (Zas rfl) ?_
  refine Zg3 ?_
  refine Ct.o ?_
  refine Zgb ?_
  first|refine Zhg (Za2 rfl) ?_|refine Zhg (Zas rfl) ?_
  refine Zg3 ?_
  refine Ct.o ?_
  refine Zgp (Imp.own_nil (E := 28) (size := 6)) ?_
  refine Ct.o ?_
  refine Zgb ?_
  first|refine Zhg (Zaw rfl) ?_|refine Zhg (Zar rfl) ?_
  first|refine Zhg (Zaw rfl) ?_|refine Zhg (Zar rfl) ?_
  refine Zia rfl rfl qH (h.imp (Imp.arr qV)) (by first|rfl|exact oneM_u8 _|exact oneL_u8 _|exact fc_one _|exact fc_ones _|(simp [oneC]; done)) (by omega) qS ?_; intro a1 c1
  first|refine Zhg (Za2 rfl) ?_|refine Zhg (Zas rfl) ?_
  refine Zg3 ?_
  refine Ct.o ?_
  refine Zgb ?_
  first|refine Zhg (Zaz rfl) ?_|refine Zhg (Zas rfl) ?_
  refine Zg3 ?_
  refine Ct.o ?_
  refine Zgo [(3, 4), (8, 16)] (by kernel_rfl) (fun s : Nat × Option Addr × Nat => s.1 ≤ 5) (fun s => own 28 6 (.slice s.2.1 (l.length + s.1) s.2.2) (l.length + s.1) ((l ++ exL s.1).flatMap fcells) :: L) (fun s => [(4, nvv s.1), (3, .slice s.2.1 (l.length + s.1) s.2.2)]) (fun s => 5 - s.1) (0, a1, c1) (Nat.zero_le _)
    (by show Imp (own _ 6 (.slice a1 (0 + l.length) c1) (0 + l.length) ([] ++ l.flatMap fcells) :: L) (own _ 6 (.slice a1 (l.length + 0) c1) (l.length + 0) ((l ++ exL 0).flatMap fcells) :: L); rw [Nat.zero_add, Nat.add_zero, List.nil_append, show l ++ exL 0 = l from List.append_nil l]; exact Imp.refl _) ⟨rfl, by show Value.slice _ (0 + l.length) _ = .slice _ (l.length + 0) _; rw [Nat.zero_add, Nat.add_zero], trivial⟩ ?_
  rintro ⟨i, a, c⟩ u hi
  dsimp only at hi ⊢
  refine Ct.o ?_
  refine Zgb ?_
  first|refine Zhg (Zat rfl) ?_|refine Zhg (Zar rfl) ?_
  first|refine Zhg (Zmf (b := 5) rfl rfl) ?_|refine Zhg (Zbn rfl rfl) ?_
  refine Zg3 ?_
  refine Ct.o ?_
  refine Zgg rfl (fun hB => ?_) (fun hB => ?_)
  · refine Ct.o ?_
    refine Zgb ?_
    first|refine Zhg (Zaw rfl) ?_|refine Zhg (Zar rfl) ?_
    first|refine Zhg (Zat rfl) ?_|refine Zhg (Zar rfl) ?_
    refine Zhg (Zdm (cs := (fcells (exF i)).toArray) rfl) ?_
    refine Zh7 (cs := (fcells (exF i)).toArray) (by omega) (by omega) qF ?_; intro b15
    refine Zia rfl rfl qH (Rd.cl (xs := fcells (exF i)) qH rfl qZ rfl) (by first|rfl|exact oneM_u8 _|exact oneL_u8 _|exact fc_one _|exact fc_ones _|(simp [oneC]; done)) (by omega) qS ?_; intro a3 c3
    first|refine Zhg (Za2 rfl) ?_|refine Zhg (Zas rfl) ?_
    refine Zg3 ?_
    refine Ct.o ?_
    refine Zgb ?_
    first|refine Zhg (Zat rfl) ?_|refine Zhg (Zar rfl) ?_
    first|refine Zhg (Zma (b := 1) rfl rfl) ?_|refine Zhg (Zbg rfl rfl) ?_
    first|refine Zhg (Zaz rfl) ?_|refine Zhg (Zas rfl) ?_
    refine Zg3 ?_
    refine Ct.o ?_
    have e : (l ++ exL i).flatMap fcells ++ fcells (exF i) = (l ++ exL (i + 1)).flatMap fcells := by rw [exL_succ, ← List.append_assoc, List.flatMap_append]; simp
    rw [e]
    exact Zgl (i + 1, a3, c3) qO qO qI ⟨rfl, rfl, trivial⟩
  · have hie : i = 5 := by omega
    subst hie
    refine Ct.o ?_
    refine Zgt (fun F w H => own_cap (n := l.length + 5) (c := c) qH H) ?_
    rintro ⟨hc, _⟩
    refine Ct.o ?_
    refine Zgb ?_
    first|refine Zhg (Zaw rfl) ?_|refine Zhg (Zar rfl) ?_
    first|refine Zhg (Zaw rfl) ?_|refine Zhg (Zar rfl) ?_
    first|refine Zhg (Zcr rfl) ?_|refine Zhg (Zct) ?_|refine Zhg (Zcu rfl) ?_
    refine Zhg (Zm8 (h := l.length) rfl rfl (by omega)) ?_
    first|refine Zhg (Za2 rfl) ?_|refine Zhg (Zas rfl) ?_
    refine Zg3 ?_
    refine Ct.o ?_
    have e : l.length + 5 = (l ++ exL 5).length := by simp [exL]
    rw [e]
    refine rx1 (Zhc rfl (Zg7)) ?_
    exact ⟨_, ⟨a, c, rfl, rfl⟩, qI⟩
def f0 : HostS.Fault := ⟨3, 3, 0, 0, 0#8, 0⟩
def s0 : HostS.HS := HostS.fresh 2 3 [f0]
def s1 : HostS.HS := (HostS.writeR s0 1 [1#8, 2#8, 3#8]).2
def s2 : HostS.HS := (HostS.raiseR s1 7#64).2
def s3 : HostS.HS := (HostS.readR s2 1).2.2
def s4 : HostS.HS := (HostS.askR s3).2.2
def s5 : HostS.HS := { s4 with down := false }
def s6 : HostS.HS := (HostS.askR s5).2.2
theorem awake_x : Con Try.prog 7 [] [] (fun r M => r = .bool true ∧ M = []) := by
  have hmay : HostS.mayBe 2 3 [f0] := ⟨by decide, by decide⟩
  have h0 := fun b => new_ok (L := [cl b (fcells f0).toArray 28]) 2 3 (fl := [f0]) (by decide) (by simp [f0]; constructor <;> decide) (Rd.cl (o := 0) (k := 1) .here rfl (by decide) rfl) hmay
  have h1 := fun p b => write_x (p := p) (s := s0) (L := [cl b #[u8b 1#8, u8b 2#8, u8b 3#8] 5]) 1 (b := [1#8, 2#8, 3#8]) (bs_full (l := [1#8, 2#8, 3#8]) (n := 3) .here rfl (by omega)) (by decide) (by decide)
  rw [show (HostS.writeR s0 1 [1#8, 2#8, 3#8]).1 = 0 by decide +kernel] at h1
  have h2 := fun p => raise_x (p := p) (s := s1) 7#64 (by decide +kernel)
  rw [show (HostS.raiseR s1 7#64).1 = 0 by decide +kernel] at h2
  have h3 := fun p => read_x (p := p) (s := s2) 1 (by decide +kernel)
  rw [show (HostS.readR s2 1).2.1 = 0 by decide +kernel, show (HostS.readR s2 1).1 = [1#8, 2#8, 3#8] by decide +kernel] at h3
  have h4 := fun p => ask_x (p := p) (s := s3) (by decide +kernel)
  rw [show (HostS.askR s3).2.1 = 110 by decide +kernel] at h4
  have h5 := fun p => down_x (p := p) (s := s4)
  rw [show s4.down = true by decide +kernel] at h5
  have h6 := fun p => ask_x (p := p) (s := s5) (by decide +kernel)
  rw [show (HostS.askR s5).2.1 = 0 by decide +kernel, show (HostS.askR s5).1 = 7#64 by decide +kernel] at h6
  have h7 := fun p => ops_x (p := p) (s := s6)
  rw [show s6.ops = 5 by decide +kernel] at h7
  have h8 := fun p => log_x (p := p) (s := s6) (by decide +kernel)
  rw [show s6.log.length = 4 by decide +kernel] at h8
  refine fn_x Try.func7 rfl rfl rfl Try.mixed (by kernel_rfl) ?_
  intro w0
  refine Ct.o ?_
  refine Zgb ?_
  first|refine Zhg (Za0 rfl) ?_|refine Zhg (Zas rfl) ?_
  refine Zg3 ?_
  refine Ct.o ?_
  refine Zgb ?_
  refine Zhg (Zdm (cs := #[.int .i64 3, .int .i64 3, .int .i64 0, .int .i64 0, u8b 0#8, .int .i64 0]) (by kernel_rfl)) ?_
  refine Zh7 (cs := (fcells f0).toArray) (by omega) (by omega) qF ?_; intro b12
  refine Zh8 rfl (by kernel_rfl) (h0 b12) rfl qT ?_
  rintro _ _ ⟨p, rfl, rfl⟩
  refine Zg2 qA ?_
  first|refine Zhg (Zmm rfl) ?_|refine Zhg (Zar rfl) ?_
  refine Zhg (Zco rfl rfl) ?_
  refine Zhg (Zco rfl rfl) ?_
  first|refine Zhg (Za1 rfl) ?_|refine Zhg (Zas rfl) ?_
  first|refine Zhg (Zaz rfl) ?_|refine Zhg (Zas rfl) ?_
  refine Zg3 ?_
  refine Ct.o ?_
  refine Zgb ?_
  first|refine Zhg (Zat rfl) ?_|refine Zhg (Zar rfl) ?_
  first|refine Zhg (Zmk (b := 0) rfl rfl) ?_|refine Zhg (Zbs rfl rfl) ?_
  refine Zhn 17 rfl (decide_eq_false ((fun h => h rfl))) ?_
  first|refine Zhg (Zau rfl) ?_|refine Zhg (Zar rfl) ?_
  first|refine Zhi rfl ?_|refine Zhj rfl ?_|(refine Zhh rfl ?_; (first|refine Zhg (Zav rfl) ?_|refine Zhg (Zar rfl) ?_))
  first|refine Zhi rfl ?_|refine Zhj rfl ?_|(refine Zhh rfl ?_; (refine Zhg (Zca rfl rfl) ?_))
  refine Zhn 20 rfl (rfl) ?_
  first|refine Zhg (Zdz rfl rfl) ?_|refine Zhg (Zd0 rfl rfl) ?_|refine Zhg (Za8 rfl rfl) ?_|refine Zhg (Za9 rfl rfl) ?_|refine Zhg (Za6 rfl rfl) ?_|refine Zhg (Za7 rfl rfl) ?_
  first|refine Zhg (Zau rfl) ?_|refine Zhg (Zar rfl) ?_
  first|refine Zhi rfl ?_|refine Zhj rfl ?_|(refine Zhh rfl ?_; (first|refine Zhg (Zav rfl) ?_|refine Zhg (Zar rfl) ?_))
  first|refine Zhi rfl ?_|refine Zhj rfl ?_|(refine Zhh rfl ?_; (refine Zh7 (cs := #[u8b 1#8, u8b 2#8, u8b 3#8]) (by omega) (by omega) (by kernel_rfl) ?_; intro b24))
  first|refine Zhi rfl ?_|refine Zhj rfl ?_|(refine Zhh rfl ?_; (refine Zh8 rfl (by kernel_rfl) (h1 p b24) rfl qT ?_); (rintro _ _ ⟨rfl, rfl⟩); (refine Zg2 qA ?_))
  first|refine Zhi rfl ?_|refine Zhj rfl ?_|(refine Zhh rfl ?_; (first|refine Zhg (Zmk (b := 0) rfl rfl) ?_|refine Zhg (Zbs rfl rfl) ?_))
  refine Zhn 26 rfl (decide_eq_false ((fun h => h rfl))) ?_
  first|refine Zhg (Zdz rfl rfl) ?_|refine Zhg (Zd0 rfl rfl) ?_|refine Zhg (Za8 rfl rfl) ?_|refine Zhg (Za9 rfl rfl) ?_|refine Zhg (Za6 rfl rfl) ?_|refine Zhg (Za7 rfl rfl) ?_
  first|refine Zhg (Zau rfl) ?_|refine Zhg (Zar rfl) ?_
  first|refine Zhi rfl ?_|refine Zhj rfl ?_|(refine Zhh rfl ?_; (first|refine Zhg (Zav rfl) ?_|refine Zhg (Zar rfl) ?_))
  first|refine Zhi rfl ?_|refine Zhj rfl ?_|(refine Zhh rfl ?_; (refine Zh8 rfl (by kernel_rfl) (h2 p) rfl qT ?_); (rintro _ _ ⟨rfl, rfl⟩); (refine Zg2 qA ?_))
  first|refine Zhi rfl ?_|refine Zhj rfl ?_|(refine Zhh rfl ?_; (first|refine Zhg (Zmk (b := 0) rfl rfl) ?_|refine Zhg (Zbs rfl rfl) ?_))
  refine Zhn 31 rfl (decide_eq_false ((fun h => h rfl))) ?_
  first|refine Zhg (Zdz rfl rfl) ?_|refine Zhg (Zd0 rfl rfl) ?_|refine Zhg (Za8 rfl rfl) ?_|refine Zhg (Za9 rfl rfl) ?_|refine Zhg (Za6 rfl rfl) ?_|refine Zhg (Za7 rfl rfl) ?_
  refine Zg3 ?_
  refine Ct.o ?_
  refine Zgf rfl ?_
  refine Ct.o ?_
  refine Zgb ?_
  first|refine Zhg (Zav rfl) ?_|refine Zhg (Zar rfl) ?_
  refine Zh8 rfl (by kernel_rfl) (h3 p) rfl qT ?_
  rintro _ _ ⟨ra, rc, rfl, rfl⟩
  refine Zg2 qA ?_
  first|refine Zhg (Zmm rfl) ?_|refine Zhg (Zar rfl) ?_
  refine Zhg (Zco rfl rfl) ?_
  refine Zhg (Zco rfl rfl) ?_
  first|refine Zhg (Za2 rfl) ?_|refine Zhg (Zas rfl) ?_
  first|refine Zhg (Zaz rfl) ?_|refine Zhg (Zas rfl) ?_
  refine Zg3 ?_
  refine Ct.o ?_
  refine Zgb ?_
  first|refine Zhg (Zav rfl) ?_|refine Zhg (Zar rfl) ?_
  refine Zh8 rfl (by kernel_rfl) (h4 p) rfl qT ?_
  rintro _ _ ⟨rfl, rfl⟩
  refine Zg2 qA ?_
  first|refine Zhg (Zmm rfl) ?_|refine Zhg (Zar rfl) ?_
  refine Zhg (Zco rfl rfl) ?_
  refine Zhg (Zco rfl rfl) ?_
  first|refine Zhg (Zaz rfl) ?_|refine Zhg (Zas rfl) ?_
  first|refine Zhg (Zaz rfl) ?_|refine Zhg (Zas rfl) ?_
  refine Zg3 ?_
  refine Ct.o ?_
  refine Zgb ?_
  first|refine Zhg (Zav rfl) ?_|refine Zhg (Zar rfl) ?_
  refine Zh8 rfl (by kernel_rfl) (h5 p) rfl qT ?_
  rintro _ _ ⟨rfl, rfl⟩
  refine Zg2 qA ?_
  first|refine Zhg (Za0 rfl) ?_|refine Zhg (Zas rfl) ?_
  refine Zg3 ?_
  refine Ct.o ?_
  refine Zgb ?_
  first|refine Zhg (Zav rfl) ?_|refine Zhg (Zar rfl) ?_
  refine Zh8 rfl (by kernel_rfl) (restart_x (s := s4)) rfl qT ?_
  rintro _ _ rfl
  refine Zg2 qA ?_
  refine Zg3 ?_
  refine Ct.o ?_
  refine Zgb ?_
  first|refine Zhg (Zav rfl) ?_|refine Zhg (Zar rfl) ?_
  refine Zh8 rfl (by kernel_rfl) (h6 p) rfl qT ?_
  rintro _ _ ⟨rfl, rfl⟩
  refine Zg2 qA ?_
  first|refine Zhg (Zmm rfl) ?_|refine Zhg (Zar rfl) ?_
  refine Zhg (Zco rfl rfl) ?_
  refine Zhg (Zco rfl rfl) ?_
  first|refine Zhg (Zaz rfl) ?_|refine Zhg (Zas rfl) ?_
  first|refine Zhg (Zaz rfl) ?_|refine Zhg (Zas rfl) ?_
  refine Zg3 ?_
  refine Ct.o ?_
  refine Zgb ?_
  first|refine Zhg (Zat rfl) ?_|refine Zhg (Zar rfl) ?_
  first|refine Zhg (Zmj (b := 0) rfl rfl) ?_|refine Zhg (Zbr rfl rfl) ?_
  refine Zhm 53 rfl (rfl) ?_
  first|refine Zhg (Zau rfl) ?_|refine Zhg (Zar rfl) ?_
  first|refine Zhi rfl ?_|refine Zhj rfl ?_|(refine Zhh rfl ?_; (first|refine Zhg (Zaw rfl) ?_|refine Zhg (Zar rfl) ?_))
  first|refine Zhi rfl ?_|refine Zhj rfl ?_|(refine Zhh rfl ?_; (refine Zh7 (cs := #[u8b 1#8, u8b 2#8, u8b 3#8]) (by omega) (by omega) (by kernel_rfl) ?_; intro b56))
  first|refine Zhi rfl ?_|refine Zhj rfl ?_|(refine Zhh rfl ?_; (refine Zh8 rfl (by kernel_rfl) (eqBytes_x (L := [cl b56 #[u8b 1#8, u8b 2#8, u8b 3#8] 5, ownB ra rc [1#8, 2#8, 3#8]]) (a := [1#8, 2#8, 3#8]) (b := [1#8, 2#8, 3#8]) (Bs.own qH) (bs_full (l := [1#8, 2#8, 3#8]) (n := 3) qH rfl (by omega))) rfl qT ?_); (rintro _ _ ⟨rfl, rfl⟩); (refine Zg2 qA ?_))
  refine Zhm 57 rfl (decide_eq_true (rfl)) ?_
  first|refine Zhg (Zdz rfl rfl) ?_|refine Zhg (Zd0 rfl rfl) ?_|refine Zhg (Za8 rfl rfl) ?_|refine Zhg (Za9 rfl rfl) ?_|refine Zhg (Za6 rfl rfl) ?_|refine Zhg (Za7 rfl rfl) ?_
  first|refine Zhg (Zau rfl) ?_|refine Zhg (Zar rfl) ?_
  first|refine Zhi rfl ?_|refine Zhj rfl ?_|(refine Zhh rfl ?_; (first|refine Zhg (Zat rfl) ?_|refine Zhg (Zar rfl) ?_))
  first|refine Zhi rfl ?_|refine Zhj rfl ?_|(refine Zhh rfl ?_; (first|refine Zhg (Zmj (b := 110) rfl rfl) ?_|refine Zhg (Zbr rfl rfl) ?_))
  refine Zhm 61 rfl (rfl) ?_
  first|refine Zhg (Zdz rfl rfl) ?_|refine Zhg (Zd0 rfl rfl) ?_|refine Zhg (Za8 rfl rfl) ?_|refine Zhg (Za9 rfl rfl) ?_|refine Zhg (Za6 rfl rfl) ?_|refine Zhg (Za7 rfl rfl) ?_
  first|refine Zhg (Zau rfl) ?_|refine Zhg (Zar rfl) ?_
  first|refine Zhi rfl ?_|refine Zhj rfl ?_|(refine Zhh rfl ?_; (first|refine Zhg (Zau rfl) ?_|refine Zhg (Zar rfl) ?_))
  first|refine Zhg (Zdz rfl rfl) ?_|refine Zhg (Zd0 rfl rfl) ?_|refine Zhg (Za8 rfl rfl) ?_|refine Zhg (Za9 rfl rfl) ?_|refine Zhg (Za6 rfl rfl) ?_|refine Zhg (Za7 rfl rfl) ?_
  first|refine Zhg (Zau rfl) ?_|refine Zhg (Zar rfl) ?_
  first|refine Zhi rfl ?_|refine Zhj rfl ?_|(refine Zhh rfl ?_; (first|refine Zhg (Zat rfl) ?_|refine Zhg (Zar rfl) ?_))
  first|refine Zhi rfl ?_|refine Zhj rfl ?_|(refine Zhh rfl ?_; (first|refine Zhg (Zmj (b := 0) rfl rfl) ?_|refine Zhg (Zbr rfl rfl) ?_))
  refine Zhm 68 rfl (rfl) ?_
  first|refine Zhg (Zdz rfl rfl) ?_|refine Zhg (Zd0 rfl rfl) ?_|refine Zhg (Za8 rfl rfl) ?_|refine Zhg (Za9 rfl rfl) ?_|refine Zhg (Za6 rfl rfl) ?_|refine Zhg (Za7 rfl rfl) ?_
  first|refine Zhg (Zau rfl) ?_|refine Zhg (Zar rfl) ?_
  first|refine Zhi rfl ?_|refine Zhj rfl ?_|(refine Zhh rfl ?_; (first|refine Zhg (Zat rfl) ?_|refine Zhg (Zar rfl) ?_))
  first|refine Zhi rfl ?_|refine Zhj rfl ?_|(refine Zhh rfl ?_; (refine Zhg (Zln (x := 7#64) (y := 7#64) rfl rfl) ?_))
  refine Zhm 72 rfl (decide_eq_true (rfl)) ?_
  first|refine Zhg (Zdz rfl rfl) ?_|refine Zhg (Zd0 rfl rfl) ?_|refine Zhg (Za8 rfl rfl) ?_|refine Zhg (Za9 rfl rfl) ?_|refine Zhg (Za6 rfl rfl) ?_|refine Zhg (Za7 rfl rfl) ?_
  first|refine Zhg (Zau rfl) ?_|refine Zhg (Zar rfl) ?_
  first|refine Zhi rfl ?_|refine Zhj rfl ?_|(refine Zhh rfl ?_; (first|refine Zhg (Zav rfl) ?_|refine Zhg (Zar rfl) ?_))
  first|refine Zhi rfl ?_|refine Zhj rfl ?_|(refine Zhh rfl ?_; (refine Zh8 rfl (by kernel_rfl) (h7 p) rfl qT ?_); (rintro _ _ ⟨rfl, rfl⟩); (refine Zg2 qA ?_))
  first|refine Zhi rfl ?_|refine Zhj rfl ?_|(refine Zhh rfl ?_; (first|refine Zhg (Zmj (b := 5) rfl rfl) ?_|refine Zhg (Zbr rfl rfl) ?_))
  refine Zhm 77 rfl (rfl) ?_
  first|refine Zhg (Zdz rfl rfl) ?_|refine Zhg (Zd0 rfl rfl) ?_|refine Zhg (Za8 rfl rfl) ?_|refine Zhg (Za9 rfl rfl) ?_|refine Zhg (Za6 rfl rfl) ?_|refine Zhg (Za7 rfl rfl) ?_
  first|refine Zhg (Zau rfl) ?_|refine Zhg (Zar rfl) ?_
  first|refine Zhi rfl ?_|refine Zhj rfl ?_|(refine Zhh rfl ?_; (first|refine Zhg (Zav rfl) ?_|refine Zhg (Zar rfl) ?_))
  first|refine Zhi rfl ?_|refine Zhj rfl ?_|(refine Zhh rfl ?_; (refine Zh8 rfl (by kernel_rfl) (h8 p) rfl qT ?_); (rintro _ _ ⟨la, lc, rfl, rfl⟩); (refine Zg2 qA ?_))
  first|refine Zhi rfl ?_|refine Zhj rfl ?_|(refine Zhh rfl ?_; (first|refine Zhg (Zcr rfl) ?_|refine Zhg (Zct) ?_|refine Zhg (Zcu rfl) ?_))
  first|refine Zhi rfl ?_|refine Zhj rfl ?_|(refine Zhh rfl ?_; (first|refine Zhg (Zmj (b := 4) rfl rfl) ?_|refine Zhg (Zbr rfl rfl) ?_))
  refine Zhm 83 rfl (rfl) ?_
  first|refine Zhg (Zdz rfl rfl) ?_|refine Zhg (Zd0 rfl rfl) ?_|refine Zhg (Za8 rfl rfl) ?_|refine Zhg (Za9 rfl rfl) ?_|refine Zhg (Za6 rfl rfl) ?_|refine Zhg (Za7 rfl rfl) ?_
  first|refine Zhg (Za0 rfl) ?_|refine Zhg (Zas rfl) ?_
  refine Zg3 ?_
  refine Ct.o ?_
  refine rx1 (Zha rfl (Zg7)) ?_
  exact ⟨_, ⟨rfl, rfl⟩, qI⟩
end Go.Sl

/- trystlaw11: what comes in, opened. -/
set_option linter.unusedVariables false
set_option linter.unusedSimpArgs false
set_option maxHeartbeats 2000000
namespace Go.Sl
open Go Go.Proofs Go.ChangeShapes Go.WideShapes Go.ChangeAt Go.RowKit
structure FaultV where
  at_ : Int
  kind_ : Int
  page_ : Int
  byte_ : Int
  by_ : BitVec 8
  back_ : Int
def FaultV.cells (x : FaultV) : List Value := [.int .i64 x.at_] ++ ([.int .i64 x.kind_] ++ ([.int .i64 x.page_] ++ ([.int .i64 x.byte_] ++ ([u8b x.by_] ++ ([.int .i64 x.back_])))))
structure FaultVOk (w : World) (x : FaultV) : Prop where
  triv : True
  at_ : -9223372036854775808 ≤ x.at_ ∧ x.at_ ≤ 9223372036854775807
  kind_ : -9223372036854775808 ≤ x.kind_ ∧ x.kind_ ≤ 9223372036854775807
  page_ : -9223372036854775808 ≤ x.page_ ∧ x.page_ ≤ 9223372036854775807
  byte_ : -9223372036854775808 ≤ x.byte_ ∧ x.byte_ ≤ 9223372036854775807
  back_ : -9223372036854775808 ≤ x.back_ ∧ x.back_ ≤ 9223372036854775807
theorem FaultV.len {w : World} {x : FaultV} (h : FaultVOk w x) : x.cells.length = 6 := by
  simp [FaultV.cells]
theorem FaultV.c_at_ {w : World} {x : FaultV} (h : FaultVOk w x) : (x.cells.toArray)[0]? = some (.int .i64 x.at_) := by
  simp [FaultV.cells, List.getElem?_append, List.getElem?_cons]
theorem FaultV.c_kind_ {w : World} {x : FaultV} (h : FaultVOk w x) : (x.cells.toArray)[1]? = some (.int .i64 x.kind_) := by
  simp [FaultV.cells, List.getElem?_append, List.getElem?_cons]
theorem FaultV.c_page_ {w : World} {x : FaultV} (h : FaultVOk w x) : (x.cells.toArray)[2]? = some (.int .i64 x.page_) := by
  simp [FaultV.cells, List.getElem?_append, List.getElem?_cons]
theorem FaultV.c_byte_ {w : World} {x : FaultV} (h : FaultVOk w x) : (x.cells.toArray)[3]? = some (.int .i64 x.byte_) := by
  simp [FaultV.cells, List.getElem?_append, List.getElem?_cons]
theorem FaultV.c_by_ {w : World} {x : FaultV} (h : FaultVOk w x) : (x.cells.toArray)[4]? = some (u8b x.by_) := by
  simp [FaultV.cells, List.getElem?_append, List.getElem?_cons]
theorem FaultV.c_back_ {w : World} {x : FaultV} (h : FaultVOk w x) : (x.cells.toArray)[5]? = some (.int .i64 x.back_) := by
  simp [FaultV.cells, List.getElem?_append, List.getElem?_cons]
section
variable {H : Type} {enc : TypeId × Value → H} {w : World} {base : Nat} {spare : Nat → Bool} {held : Bool}
theorem open_FaultV {n : Nat} {cs : List Value} {y : DataW H × List MemPlace} (h : DataW.trod enc Try.prog w base spare held n 28 cs = some y) (hs : Small Try.prog 28 y.1) : ∃ x : FaultV, cs = x.cells ∧ FaultVOk w x := by
  obtain ⟨xs, m, _, hx, hl, hn, hf⟩ := DataW.trod_struct Try.underlying28 h
  rw [show Try.prog.cellsOf 28 = 6 by kernel_rfl] at hl
  have hn : xs.length = 6 := hn
  have g : ∀ i (hi : i < xs.length), xs[i]? = some xs[i] := fun i hi => List.getElem?_eq_getElem hi
  rw [hx] at hs
  have e0 : DataW.trod enc Try.prog w base spare held m 3 ((cs.drop 0).take (Try.prog.cellsOf 3)) = some (xs[0]'(by omega)) := (hf 0 _ rfl).trans (g 0 (by omega))
  rw [show Try.prog.cellsOf 3 = 1 by kernel_rfl] at e0
  obtain ⟨n0, c0, _, wf0⟩ := DataW.trod_int Try.underlying3 e0
  have e1 : DataW.trod enc Try.prog w base spare held m 3 ((cs.drop 1).take (Try.prog.cellsOf 3)) = some (xs[1]'(by omega)) := (hf 1 _ rfl).trans (g 1 (by omega))
  rw [show Try.prog.cellsOf 3 = 1 by kernel_rfl] at e1
  obtain ⟨n1, c1, _, wf1⟩ := DataW.trod_int Try.underlying3 e1
  have e2 : DataW.trod enc Try.prog w base spare held m 3 ((cs.drop 2).take (Try.prog.cellsOf 3)) = some (xs[2]'(by omega)) := (hf 2 _ rfl).trans (g 2 (by omega))
  rw [show Try.prog.cellsOf 3 = 1 by kernel_rfl] at e2
  obtain ⟨n2, c2, _, wf2⟩ := DataW.trod_int Try.underlying3 e2
  have e3 : DataW.trod enc Try.prog w base spare held m 3 ((cs.drop 3).take (Try.prog.cellsOf 3)) = some (xs[3]'(by omega)) := (hf 3 _ rfl).trans (g 3 (by omega))
  rw [show Try.prog.cellsOf 3 = 1 by kernel_rfl] at e3
  obtain ⟨n3, c3, _, wf3⟩ := DataW.trod_int Try.underlying3 e3
  have e4 : DataW.trod enc Try.prog w base spare held m 5 ((cs.drop 4).take (Try.prog.cellsOf 5)) = some (xs[4]'(by omega)) := (hf 4 _ rfl).trans (g 4 (by omega))
  rw [show Try.prog.cellsOf 5 = 1 by kernel_rfl] at e4
  obtain ⟨n4, c4, _, wf4⟩ := DataW.trod_int Try.underlying5 e4
  obtain ⟨b4, hb4⟩ := u8_of wf4
  rw [hb4] at c4
  have e5 : DataW.trod enc Try.prog w base spare held m 3 ((cs.drop 5).take (Try.prog.cellsOf 3)) = some (xs[5]'(by omega)) := (hf 5 _ rfl).trans (g 5 (by omega))
  rw [show Try.prog.cellsOf 3 = 1 by kernel_rfl] at e5
  obtain ⟨n5, c5, _, wf5⟩ := DataW.trod_int Try.underlying3 e5
  refine ⟨⟨n0, n1, n2, n3, b4, n5⟩, ?_, ⟨trivial, i64_of wf0, i64_of wf1, i64_of wf2, i64_of wf3, i64_of wf5⟩⟩
  have d0 : cs.drop 0 = (cs.drop 0).take 1 ++ cs.drop 1 := by
    have := (List.take_append_drop 1 (cs.drop 0)).symm
    rwa [List.drop_drop] at this
  have d1 : cs.drop 1 = (cs.drop 1).take 1 ++ cs.drop 2 := by
    have := (List.take_append_drop 1 (cs.drop 1)).symm
    rwa [List.drop_drop] at this
  have d2 : cs.drop 2 = (cs.drop 2).take 1 ++ cs.drop 3 := by
    have := (List.take_append_drop 1 (cs.drop 2)).symm
    rwa [List.drop_drop] at this
  have d3 : cs.drop 3 = (cs.drop 3).take 1 ++ cs.drop 4 := by
    have := (List.take_append_drop 1 (cs.drop 3)).symm
    rwa [List.drop_drop] at this
  have d4 : cs.drop 4 = (cs.drop 4).take 1 ++ cs.drop 5 := by
    have := (List.take_append_drop 1 (cs.drop 4)).symm
    rwa [List.drop_drop] at this
  have d5 : cs.drop 5 = (cs.drop 5).take 1 := by rw [List.take_of_length_le (by simp; omega)]
  show cs = _ ++ (_ ++ (_ ++ (_ ++ (_ ++ (_)))))
  have dz : cs = cs.drop 0 := rfl
  rw [dz, d0, d1, d2, d3, d4, d5, c0, c1, c2, c3, c4, c5] <;> rfl
end
/-- A slice of them that comes in. -/
structure InFaultV (W : World) (v : Value) (l : List FaultV) : Prop where
  sl : SlW W 6 v l.length (l.flatMap FaultV.cells)
  sh : ∃ a c, v = .slice a l.length c ∧ l.length ≤ c ∧ c ≤ 9223372036854775807
  el : ∀ x ∈ l, FaultVOk W x
  len : l.length * 48 ≤ 140737488351232
abbrev FaultVS (w : World) := {x : FaultV // FaultVOk w x}
theorem InFaultV.sub {w : World} {v : Value} {l : List FaultV} (h : InFaultV w v l) : ∃ l2 : List (FaultVS w), l2.map (·.1) = l ∧ SlW w 6 v l2.length (l2.flatMap fun x => x.1.cells) := by
  have e : (l.attach.map fun x => (⟨x.1, h.el x.1 x.2⟩ : FaultVS w)).map (·.1) = l := by rw [List.map_map]; exact List.attach_map_subtype_val l
  refine ⟨_, e, ?_⟩
  have h2 := h.sl
  rw [← e, List.flatMap_map] at h2
  rw [List.length_map] at h2
  exact h2
section
variable {H : Type} {enc : TypeId × Value → H} {w : World} {base : Nat} {spare : Nat → Bool} {held : Bool}
theorem opens_FaultV {n : Nat} {cs : List Value} {y : DataW H × List MemPlace} (h : DataW.trod enc Try.prog w base spare held n 22 cs = some y) (hs : Small Try.prog 22 y.1) : ∃ (v : Value) (l : List FaultV), cs = [v] ∧ InFaultV w v l := by
  obtain ⟨v, l, h1, h2, h3, h4⟩ := open_sls (encd := fun x : FaultVS w => x.1.cells) (good := fun _ => True) Try.underlying22 (by kernel_rfl) (by decide) (by kernel_rfl : Try.prog.bytesOf 28 = 48) (fun x => FaultV.len x.2) (fun n cs y hy hsm => by
    obtain ⟨x, hx, ok⟩ := open_FaultV hy hsm
    exact ⟨⟨x, ok⟩, hx, trivial⟩) h hs
  obtain ⟨a, len, cap, h5, h6, h7⟩ := slice_shape Try.underlying22 h
  rw [h1] at h5
  simp only [List.cons.injEq, and_true] at h5
  obtain ⟨a', k', hv⟩ := h2.len
  rw [h5] at hv
  simp only [Value.slice.injEq] at hv
  obtain ⟨rfl, rfl, rfl⟩ := hv
  have e : (l.map (·.1)).flatMap FaultV.cells = l.flatMap fun x => x.1.cells := by rw [List.flatMap_map]
  refine ⟨v, l.map (·.1), h1, ⟨?_, ?_, ?_, ?_⟩⟩
  · rw [e, List.length_map]; exact h2
  · rw [List.length_map]; exact ⟨_, _, h5, h6, h7⟩
  · intro x hx
    obtain ⟨z, _, rfl⟩ := List.mem_map.1 hx
    exact z.2
  · rw [List.length_map]; exact h4
end
structure StepV where
  do_ : Int
  page_ : Int
  v_ : BitVec 64
  data_V : Value
  data_ : List Byte
def StepV.cells (x : StepV) : List Value := [.int .i64 x.do_] ++ ([.int .i64 x.page_] ++ ([u64b x.v_] ++ ([x.data_V])))
structure StepVOk (w : World) (x : StepV) : Prop where
  triv : True
  do_ : -9223372036854775808 ≤ x.do_ ∧ x.do_ ≤ 9223372036854775807
  page_ : -9223372036854775808 ≤ x.page_ ∧ x.page_ ≤ 9223372036854775807
  data_ : InB w x.data_V x.data_
theorem StepV.len {w : World} {x : StepV} (h : StepVOk w x) : x.cells.length = 4 := by
  simp [StepV.cells]
theorem StepV.c_do_ {w : World} {x : StepV} (h : StepVOk w x) : (x.cells.toArray)[0]? = some (.int .i64 x.do_) := by
  simp [StepV.cells, List.getElem?_append, List.getElem?_cons]
theorem StepV.c_page_ {w : World} {x : StepV} (h : StepVOk w x) : (x.cells.toArray)[1]? = some (.int .i64 x.page_) := by
  simp [StepV.cells, List.getElem?_append, List.getElem?_cons]
theorem StepV.c_v_ {w : World} {x : StepV} (h : StepVOk w x) : (x.cells.toArray)[2]? = some (u64b x.v_) := by
  simp [StepV.cells, List.getElem?_append, List.getElem?_cons]
theorem StepV.c_data_ {w : World} {x : StepV} (h : StepVOk w x) : (x.cells.toArray)[3]? = some (x.data_V) := by
  simp [StepV.cells, List.getElem?_append, List.getElem?_cons]
section
variable {H : Type} {enc : TypeId × Value → H} {w : World} {base : Nat} {spare : Nat → Bool} {held : Bool}
theorem open_StepV {n : Nat} {cs : List Value} {y : DataW H × List MemPlace} (h : DataW.trod enc Try.prog w base spare held n 39 cs = some y) (hs : Small Try.prog 39 y.1) : ∃ x : StepV, cs = x.cells ∧ StepVOk w x := by
  obtain ⟨xs, m, _, hx, hl, hn, hf⟩ := DataW.trod_struct Try.underlying39 h
  rw [show Try.prog.cellsOf 39 = 4 by kernel_rfl] at hl
  have hn : xs.length = 4 := hn
  have g : ∀ i (hi : i < xs.length), xs[i]? = some xs[i] := fun i hi => List.getElem?_eq_getElem hi
  rw [hx] at hs
  have e0 : DataW.trod enc Try.prog w base spare held m 3 ((cs.drop 0).take (Try.prog.cellsOf 3)) = some (xs[0]'(by omega)) := (hf 0 _ rfl).trans (g 0 (by omega))
  rw [show Try.prog.cellsOf 3 = 1 by kernel_rfl] at e0
  obtain ⟨n0, c0, _, wf0⟩ := DataW.trod_int Try.underlying3 e0
  have e1 : DataW.trod enc Try.prog w base spare held m 3 ((cs.drop 1).take (Try.prog.cellsOf 3)) = some (xs[1]'(by omega)) := (hf 1 _ rfl).trans (g 1 (by omega))
  rw [show Try.prog.cellsOf 3 = 1 by kernel_rfl] at e1
  obtain ⟨n1, c1, _, wf1⟩ := DataW.trod_int Try.underlying3 e1
  have e2 : DataW.trod enc Try.prog w base spare held m 36 ((cs.drop 2).take (Try.prog.cellsOf 36)) = some (xs[2]'(by omega)) := (hf 2 _ rfl).trans (g 2 (by omega))
  rw [show Try.prog.cellsOf 36 = 1 by kernel_rfl] at e2
  obtain ⟨n2, c2, _, wf2⟩ := DataW.trod_int Try.underlying36 e2
  obtain ⟨b2, hb2⟩ := u64_of wf2
  rw [hb2] at c2
  have e3 : DataW.trod enc Try.prog w base spare held m 37 ((cs.drop 3).take (Try.prog.cellsOf 37)) = some (xs[3]'(by omega)) := (hf 3 _ rfl).trans (g 3 (by omega))
  rw [show Try.prog.cellsOf 37 = 1 by kernel_rfl] at e3
  have hs3 := Small.part (j := 3) Try.underlying39 hs rfl (by rw [List.getElem?_map, g 3 (by omega)]; rfl)
  obtain ⟨v3, l3, c3, ok3⟩ := open_bs Try.underlying37 Try.underlying5 (by kernel_rfl) (by kernel_rfl) e3 hs3
  refine ⟨⟨n0, n1, b2, v3, l3⟩, ?_, ⟨trivial, i64_of wf0, i64_of wf1, ok3⟩⟩
  have d0 : cs.drop 0 = (cs.drop 0).take 1 ++ cs.drop 1 := by
    have := (List.take_append_drop 1 (cs.drop 0)).symm
    rwa [List.drop_drop] at this
  have d1 : cs.drop 1 = (cs.drop 1).take 1 ++ cs.drop 2 := by
    have := (List.take_append_drop 1 (cs.drop 1)).symm
    rwa [List.drop_drop] at this
  have d2 : cs.drop 2 = (cs.drop 2).take 1 ++ cs.drop 3 := by
    have := (List.take_append_drop 1 (cs.drop 2)).symm
    rwa [List.drop_drop] at this
  have d3 : cs.drop 3 = (cs.drop 3).take 1 := by rw [List.take_of_length_le (by simp; omega)]
  show cs = _ ++ (_ ++ (_ ++ (_)))
  have dz : cs = cs.drop 0 := rfl
  rw [dz, d0, d1, d2, d3, c0, c1, c2, c3] <;> rfl
end
/-- A slice of them that comes in. -/
structure InStepV (W : World) (v : Value) (l : List StepV) : Prop where
  sl : SlW W 4 v l.length (l.flatMap StepV.cells)
  sh : ∃ a c, v = .slice a l.length c ∧ l.length ≤ c ∧ c ≤ 9223372036854775807
  el : ∀ x ∈ l, StepVOk W x
  len : l.length * 48 ≤ 140737488351232
abbrev StepVS (w : World) := {x : StepV // StepVOk w x}
theorem InStepV.sub {w : World} {v : Value} {l : List StepV} (h : InStepV w v l) : ∃ l2 : List (StepVS w), l2.map (·.1) = l ∧ SlW w 4 v l2.length (l2.flatMap fun x => x.1.cells) := by
  have e : (l.attach.map fun x => (⟨x.1, h.el x.1 x.2⟩ : StepVS w)).map (·.1) = l := by rw [List.map_map]; exact List.attach_map_subtype_val l
  refine ⟨_, e, ?_⟩
  have h2 := h.sl
  rw [← e, List.flatMap_map] at h2
  rw [List.length_map] at h2
  exact h2
section
variable {H : Type} {enc : TypeId × Value → H} {w : World} {base : Nat} {spare : Nat → Bool} {held : Bool}
theorem opens_StepV {n : Nat} {cs : List Value} {y : DataW H × List MemPlace} (h : DataW.trod enc Try.prog w base spare held n 23 cs = some y) (hs : Small Try.prog 23 y.1) : ∃ (v : Value) (l : List StepV), cs = [v] ∧ InStepV w v l := by
  obtain ⟨v, l, h1, h2, h3, h4⟩ := open_sls (encd := fun x : StepVS w => x.1.cells) (good := fun _ => True) Try.underlying23 (by kernel_rfl) (by decide) (by kernel_rfl : Try.prog.bytesOf 39 = 48) (fun x => StepV.len x.2) (fun n cs y hy hsm => by
    obtain ⟨x, hx, ok⟩ := open_StepV hy hsm
    exact ⟨⟨x, ok⟩, hx, trivial⟩) h hs
  obtain ⟨a, len, cap, h5, h6, h7⟩ := slice_shape Try.underlying23 h
  rw [h1] at h5
  simp only [List.cons.injEq, and_true] at h5
  obtain ⟨a', k', hv⟩ := h2.len
  rw [h5] at hv
  simp only [Value.slice.injEq] at hv
  obtain ⟨rfl, rfl, rfl⟩ := hv
  have e : (l.map (·.1)).flatMap StepV.cells = l.flatMap fun x => x.1.cells := by rw [List.flatMap_map]
  refine ⟨v, l.map (·.1), h1, ⟨?_, ?_, ?_, ?_⟩⟩
  · rw [e, List.length_map]; exact h2
  · rw [List.length_map]; exact ⟨_, _, h5, h6, h7⟩
  · intro x hx
    obtain ⟨z, _, rfl⟩ := List.mem_map.1 hx
    exact z.2
  · rw [List.length_map]; exact h4
end
structure LifeV where
  pages_ : Int
  size_ : Int
  faults_V : Value
  faults_ : List FaultV
  script_V : Value
  script_ : List StepV
def LifeV.cells (x : LifeV) : List Value := [.int .i64 x.pages_] ++ ([.int .i64 x.size_] ++ ([x.faults_V] ++ ([x.script_V])))
structure LifeVOk (w : World) (x : LifeV) : Prop where
  triv : True
  pages_ : -9223372036854775808 ≤ x.pages_ ∧ x.pages_ ≤ 9223372036854775807
  size_ : -9223372036854775808 ≤ x.size_ ∧ x.size_ ≤ 9223372036854775807
  faults_ : InFaultV w x.faults_V x.faults_
  script_ : InStepV w x.script_V x.script_
theorem LifeV.len {w : World} {x : LifeV} (h : LifeVOk w x) : x.cells.length = 4 := by
  simp [LifeV.cells]
theorem LifeV.c_pages_ {w : World} {x : LifeV} (h : LifeVOk w x) : (x.cells.toArray)[0]? = some (.int .i64 x.pages_) := by
  simp [LifeV.cells, List.getElem?_append, List.getElem?_cons]
theorem LifeV.c_size_ {w : World} {x : LifeV} (h : LifeVOk w x) : (x.cells.toArray)[1]? = some (.int .i64 x.size_) := by
  simp [LifeV.cells, List.getElem?_append, List.getElem?_cons]
theorem LifeV.c_faults_ {w : World} {x : LifeV} (h : LifeVOk w x) : (x.cells.toArray)[2]? = some (x.faults_V) := by
  simp [LifeV.cells, List.getElem?_append, List.getElem?_cons]
theorem LifeV.c_script_ {w : World} {x : LifeV} (h : LifeVOk w x) : (x.cells.toArray)[3]? = some (x.script_V) := by
  simp [LifeV.cells, List.getElem?_append, List.getElem?_cons]
section
variable {H : Type} {enc : TypeId × Value → H} {w : World} {base : Nat} {spare : Nat → Bool} {held : Bool}
theorem open_LifeV {n : Nat} {cs : List Value} {y : DataW H × List MemPlace} (h : DataW.trod enc Try.prog w base spare held n 25 cs = some y) (hs : Small Try.prog 25 y.1) : ∃ x : LifeV, cs = x.cells ∧ LifeVOk w x := by
  obtain ⟨xs, m, _, hx, hl, hn, hf⟩ := DataW.trod_struct Try.underlying25 h
  rw [show Try.prog.cellsOf 25 = 4 by kernel_rfl] at hl
  have hn : xs.length = 4 := hn
  have g : ∀ i (hi : i < xs.length), xs[i]? = some xs[i] := fun i hi => List.getElem?_eq_getElem hi
  rw [hx] at hs
  have e0 : DataW.trod enc Try.prog w base spare held m 3 ((cs.drop 0).take (Try.prog.cellsOf 3)) = some (xs[0]'(by omega)) := (hf 0 _ rfl).trans (g 0 (by omega))
  rw [show Try.prog.cellsOf 3 = 1 by kernel_rfl] at e0
  obtain ⟨n0, c0, _, wf0⟩ := DataW.trod_int Try.underlying3 e0
  have e1 : DataW.trod enc Try.prog w base spare held m 3 ((cs.drop 1).take (Try.prog.cellsOf 3)) = some (xs[1]'(by omega)) := (hf 1 _ rfl).trans (g 1 (by omega))
  rw [show Try.prog.cellsOf 3 = 1 by kernel_rfl] at e1
  obtain ⟨n1, c1, _, wf1⟩ := DataW.trod_int Try.underlying3 e1
  have e2 : DataW.trod enc Try.prog w base spare held m 22 ((cs.drop 2).take (Try.prog.cellsOf 22)) = some (xs[2]'(by omega)) := (hf 2 _ rfl).trans (g 2 (by omega))
  rw [show Try.prog.cellsOf 22 = 1 by kernel_rfl] at e2
  have hs2 := Small.part (j := 2) Try.underlying25 hs rfl (by rw [List.getElem?_map, g 2 (by omega)]; rfl)
  obtain ⟨v2, l2, c2, ok2⟩ := opens_FaultV e2 hs2
  have e3 : DataW.trod enc Try.prog w base spare held m 23 ((cs.drop 3).take (Try.prog.cellsOf 23)) = some (xs[3]'(by omega)) := (hf 3 _ rfl).trans (g 3 (by omega))
  rw [show Try.prog.cellsOf 23 = 1 by kernel_rfl] at e3
  have hs3 := Small.part (j := 3) Try.underlying25 hs rfl (by rw [List.getElem?_map, g 3 (by omega)]; rfl)
  obtain ⟨v3, l3, c3, ok3⟩ := opens_StepV e3 hs3
  refine ⟨⟨n0, n1, v2, l2, v3, l3⟩, ?_, ⟨trivial, i64_of wf0, i64_of wf1, ok2, ok3⟩⟩
  have d0 : cs.drop 0 = (cs.drop 0).take 1 ++ cs.drop 1 := by
    have := (List.take_append_drop 1 (cs.drop 0)).symm
    rwa [List.drop_drop] at this
  have d1 : cs.drop 1 = (cs.drop 1).take 1 ++ cs.drop 2 := by
    have := (List.take_append_drop 1 (cs.drop 1)).symm
    rwa [List.drop_drop] at this
  have d2 : cs.drop 2 = (cs.drop 2).take 1 ++ cs.drop 3 := by
    have := (List.take_append_drop 1 (cs.drop 2)).symm
    rwa [List.drop_drop] at this
  have d3 : cs.drop 3 = (cs.drop 3).take 1 := by rw [List.take_of_length_le (by simp; omega)]
  show cs = _ ++ (_ ++ (_ ++ (_)))
  have dz : cs = cs.drop 0 := rfl
  rw [dz, d0, d1, d2, d3, c0, c1, c2, c3] <;> rfl
end
end Go.Sl

/- trystlaw11: HostTampers, walked. -/
set_option maxHeartbeats 4000000
set_option maxRecDepth 10000
set_option linter.unusedVariables false
set_option linter.unusedSimpArgs false
namespace Go.Sl
open Go Go.Proofs
attribute [local irreducible] cl pt own old pur ex all den denOps denS xOps xC cX CX xthen xblk xcut xloop xgo xng retX resX Calls PV Rd Con
attribute [local irreducible] hostA HostS.toldR
theorem host_ok {p : Nat} {s : HostS.HS} {M M' : List Asrt} {F : Asrt} {w0 w : World} (hm : Has M (hostA p s) M') (H : St w0 w (F :: M)) : HostS.Ok s := by
  obtain ⟨_, _, _, h, _⟩ := St.host_get (H.pick (.there hm)); exact h
theorem rd_faults {l : List HostS.Fault} {a : Option Addr} {c : Nat} {M M' : List Asrt} (hm : Has M (own 28 6 (.slice a (l ++ exL 5).length c) (l ++ exL 5).length ((l ++ exL 5).flatMap fcells)) M') : Rd M 6 (.slice a l.length c) l.length (l.flatMap fcells) := by
  have h := own_takeN (E := 28) (sz := 6) (n := (l ++ exL 5).length) (m := l.length) (c := c) (a := a) (xs := (l ++ exL 5).flatMap fcells) (M := M') (by simp)
  have e : ((l ++ exL 5).flatMap fcells).take (l.length * 6) = l.flatMap fcells := by
    rw [List.flatMap_append]
    exact List.take_left' (by rw [List.length_flatMap]; simp [fcells_len, List.map_const'])
  rw [e] at h
  have h2 : Rd (own 28 6 (.slice a l.length c) l.length (l.flatMap fcells) :: M') 6 (.slice a l.length c) l.length (l.flatMap fcells) := Rd.own .here
  exact h2.imp ((Imp.has hm).trans h)
def pF (x : FaultV) : HostS.Fault := ⟨x.at_, x.kind_, x.page_, x.byte_, x.by_, x.back_⟩
def pS (x : StepV) : HostS.Step := ⟨x.do_, x.page_, x.v_, x.data_⟩
theorem step_len (x : StepV) : x.cells.length = 4 := rfl
structure StepsIn (L : List Asrt) (sv : Value) (st : List StepV) : Prop where
  rd : Rd L 4 sv st.length (st.flatMap StepV.cells)
  el : ∀ x ∈ st, Bs L x.data_V x.data_ ∧ x.data_.length ≤ 140737488351232
  len : st.length * 48 ≤ 140737488351232
structure FaultsIn (L : List Asrt) (fv : Value) (fl : List HostS.Fault) : Prop where
  rd : Rd L 6 fv fl.length (fl.flatMap fcells)
  ok : ∀ f ∈ fl, HostS.FOk f
  len : fl.length * 48 ≤ 140737488351232
theorem StepsIn.at {L : List Asrt} {b o n k : Nat} {st : List StepV} (h : StepsIn L (.slice (some ⟨b, o, none⟩) n k) st) {i : Nat} (hi : i < st.length) (hn : n = st.length) : RdAg L b (o + i * 4) 4 (stc (pS st[i]) st[i].data_V) := by
  subst hn
  exact h.rd.agN step_len (by omega) hi
def kept34 (fl : List HostS.Fault) : List HostS.Fault := fl.filter fun f => !spoilsF f
theorem kept34_succ (fl : List HostS.Fault) (i : Nat) (hi : i < fl.length) : kept34 (fl.take (i + 1)) = kept34 (fl.take i) ++ (if spoilsF fl[i] = true then [] else [fl[i]]) := by
  unfold kept34
  rw [List.take_succ_eq_append_getElem hi, List.filter_append]
  congr 1
  cases h : spoilsF fl[i] <;> simp [h]
theorem tampers_g {L : List Asrt} {pages size : Int} {fv sv : Value} {fl : List HostS.Fault} {st : List StepV} (hf : FaultsIn L fv fl) (hs : StepsIn L sv st) :
    Con Try.prog 3 [.agg (lfc pages size fv sv)] L (fun r M => r = .bool true ∧ L = M) := by
  refine Con.get (fun w0 w F H => hf.rd.len H) ?_
  rintro ⟨fa, fc, rfl⟩
  refine Con.get (fun w0 w F H => hs.rd.len H) ?_
  rintro ⟨sa, sc, rfl⟩
  have hfl := hf.len
  have hsl := hs.len
  refine fn_x Try.func3 rfl rfl rfl Try.mixed (by kernel_rfl) ?_
  intro w0
  refine Ct.o ?_
  refine Zgb ?_
  refine Zh5 rfl ?_; intro b1
  first|refine Zhg (Za0 rfl) ?_|refine Zhg (Zas rfl) ?_
  refine Zg3 ?_
  refine Ct.o ?_
  refine Zgb ?_
  refine Zh8 rfl (by kernel_rfl) (awake_x) rfl qT ?_
  rintro _ _ ⟨rfl, rfl⟩
  refine Zg2 qA ?_
  refine Zhg (Zb0 rfl) ?_
  refine Zhn 16 rfl (rfl) ?_
  refine Zg3 ?_
  refine Ct.o ?_
  refine Zgf rfl ?_
  refine Ct.o ?_
  refine Zgb ?_
  first|refine Zhg (Za2 rfl) ?_|refine Zhg (Zas rfl) ?_
  refine Zg3 ?_
  refine Ct.o ?_
  refine Zgb ?_
  first|refine Zhg (Zaz rfl) ?_|refine Zhg (Zas rfl) ?_
  refine Zg3 ?_
  repeat (first|refine zA ?_|refine zB ?_|refine zD ?_|refine zE ?_|refine zF ?_|refine zG ?_|refine zH ?_|refine zI ?_|refine zJ ?_|refine zK ?_|refine zL ?_|refine zM rfl ?_|refine zN ?_|refine zO ?_|refine zP ?_|refine zQ ?_)
  refine Zgp (Imp.own_nil (E := 28) (size := 6)) ?_
  refine Zgn [(2, 4), (17, 54)] (by kernel_rfl) (fun s : Option Addr × Nat => fl.all HostS.kindly = true) (fun s => own 28 6 (.slice s.1 (kept34 fl).length s.2) (kept34 fl).length ((kept34 fl).flatMap fcells) :: cl b1 (lfc pages size (.slice fa fl.length fc) (.slice sa st.length sc)) 25 :: L) (fun s => [(3, .slice s.1 (kept34 fl).length s.2)]) ?_ ?_
  · refine Ct.o ?_
    refine Zgo [(2, 4), (17, 54)] (by kernel_rfl) (fun s : Nat × Option Addr × Nat => s.1 ≤ fl.length ∧ (fl.take s.1).all HostS.kindly = true) (fun s => own 28 6 (.slice s.2.1 (kept34 (fl.take s.1)).length s.2.2) (kept34 (fl.take s.1)).length ((kept34 (fl.take s.1)).flatMap fcells) :: cl b1 (lfc pages size (.slice fa fl.length fc) (.slice sa st.length sc)) 25 :: L) (fun s => [(4, nvv s.1), (3, .slice s.2.1 (kept34 (fl.take s.1)).length s.2.2)]) (fun s => fl.length - s.1) (0, none, 0) ⟨Nat.zero_le _, rfl⟩ qI ⟨rfl, rfl, trivial⟩ ?_
    rintro ⟨i, pa, pc⟩ u ⟨hi, hkd⟩
    dsimp only at hi hkd ⊢
    refine Ct.o ?_
    refine Zgb ?_
    first|refine Zhg (Zat rfl) ?_|refine Zhg (Zar rfl) ?_
    first|refine Zhg (Zl8 rfl) ?_|refine Zhg (Zce rfl) ?_
    refine Zhp rfl qH rfl ?_
    first|refine Zhg (Zcr rfl) ?_|refine Zhg (Zct) ?_|refine Zhg (Zcu rfl) ?_
    first|refine Zhg (Zmf rfl rfl) ?_|refine Zhg (Zbn rfl rfl) ?_
    refine Zg3 ?_
    refine Ct.o ?_
    refine Zgg rfl (fun hB => ?_) (fun hB => ?_)
    · have hrd := hf.rd
      refine Zgt (fun F w H => (hrd.imp (Imp.arr (M := _) qV)).someAt (by omega) H) ?_
      rintro ⟨f1, f2, rfl⟩
      have hks := kept34_succ fl i hB
      have hkl : (kept34 (fl.take i)).length ≤ i := by
        have h1 := List.length_filter_le (fun f => !spoilsF f) (fl.take i)
        have h2 := List.length_take_le i fl
        unfold kept34; omega
      have hky : (fl.take (i + 1)).all HostS.kindly = HostS.kindly fl[i] := by rw [List.take_succ_eq_append_getElem hB, List.all_append, hkd]; simp
      by_cases hk0 : fl[i].kind < 0
      · refine Ct.o ?_
        refine Zgb ?_
        first|refine Zhg (Zl8 rfl) ?_|refine Zhg (Zce rfl) ?_
        refine Zhp rfl qH rfl ?_
        first|refine Zhg (Zat rfl) ?_|refine Zhg (Zar rfl) ?_
        first|refine Zhg (Zl6 rfl rfl) ?_|refine Zhg (Zcg rfl rfl) ?_
        first|refine Zhg (Zl8 rfl) ?_|refine Zhg (Zce rfl) ?_
        refine Zff rfl (((hrd.atN (j := 1) fcells_len hB (by omega) rfl).imp qI)) ?_
        refine Zhg (Zbn (b := 0) rfl rfl) ?_
        refine Zhm 30 rfl (decide_eq_true (hk0)) ?_
        first|refine Zhg (Zau rfl) ?_|refine Zhg (Zar rfl) ?_
        first|refine Zhi rfl ?_|refine Zhj rfl ?_|(refine Zhh rfl ?_; (first|refine Zhg (Zl8 rfl) ?_|refine Zhg (Zce rfl) ?_))
        first|refine Zhi rfl ?_|refine Zhj rfl ?_|(refine Zhh rfl ?_; (refine Zhp rfl qH rfl ?_))
        first|refine Zhi rfl ?_|refine Zhj rfl ?_|(refine Zhh rfl ?_; (first|refine Zhg (Zat rfl) ?_|refine Zhg (Zar rfl) ?_))
        first|refine Zhi rfl ?_|refine Zhj rfl ?_|(refine Zhh rfl ?_; (first|refine Zhg (Zl6 rfl rfl) ?_|refine Zhg (Zcg rfl rfl) ?_))
        first|refine Zhi rfl ?_|refine Zhj rfl ?_|(refine Zhh rfl ?_; (first|refine Zhg (Zl8 rfl) ?_|refine Zhg (Zce rfl) ?_))
        first|refine Zhi rfl ?_|refine Zhj rfl ?_|(refine Zhh rfl ?_; (refine Zhp rfl qH rfl ?_))
        first|refine Zhi rfl ?_|refine Zhj rfl ?_|(refine Zhh rfl ?_; (first|refine Zhg (Zmh (b := 4) rfl rfl) ?_|refine Zhg (Zbp rfl rfl) ?_))
        first|refine Zhg (Zdz rfl rfl) ?_|refine Zhg (Zd0 rfl rfl) ?_|refine Zhg (Za8 rfl rfl) ?_|refine Zhg (Za9 rfl rfl) ?_|refine Zhg (Za6 rfl rfl) ?_|refine Zhg (Za7 rfl rfl) ?_
        refine Zg3 ?_
        refine Ct.o ?_
        refine Zge rfl ?_
        refine Ct.o ?_
        refine Zgb ?_
        first|refine Zhg (Za0 rfl) ?_|refine Zhg (Zas rfl) ?_
        refine Zg3 ?_
        refine Ct.o ?_
        refine rx1 (Zha rfl (Zg7)) ?_
        exact ⟨_, ⟨rfl, rfl⟩, qI⟩
      by_cases hk4 : 4 < fl[i].kind
      · refine Ct.o ?_
        refine Zgb ?_
        first|refine Zhg (Zl8 rfl) ?_|refine Zhg (Zce rfl) ?_
        refine Zhp rfl qH rfl ?_
        first|refine Zhg (Zat rfl) ?_|refine Zhg (Zar rfl) ?_
        first|refine Zhg (Zl6 rfl rfl) ?_|refine Zhg (Zcg rfl rfl) ?_
        first|refine Zhg (Zl8 rfl) ?_|refine Zhg (Zce rfl) ?_
        refine Zff rfl (((hrd.atN (j := 1) fcells_len hB (by omega) rfl).imp qI)) ?_
        refine Zhg (Zbn (b := 0) rfl rfl) ?_
        refine Zhn 30 rfl (decide_eq_false (hk0)) ?_
        first|refine Zhg (Zau rfl) ?_|refine Zhg (Zar rfl) ?_
        first|refine Zhi rfl ?_|refine Zhj rfl ?_|(refine Zhh rfl ?_; (first|refine Zhg (Zl8 rfl) ?_|refine Zhg (Zce rfl) ?_))
        first|refine Zhi rfl ?_|refine Zhj rfl ?_|(refine Zhh rfl ?_; (refine Zhp rfl qH rfl ?_))
        first|refine Zhi rfl ?_|refine Zhj rfl ?_|(refine Zhh rfl ?_; (first|refine Zhg (Zat rfl) ?_|refine Zhg (Zar rfl) ?_))
        first|refine Zhi rfl ?_|refine Zhj rfl ?_|(refine Zhh rfl ?_; (first|refine Zhg (Zl6 rfl rfl) ?_|refine Zhg (Zcg rfl rfl) ?_))
        first|refine Zhi rfl ?_|refine Zhj rfl ?_|(refine Zhh rfl ?_; (first|refine Zhg (Zl8 rfl) ?_|refine Zhg (Zce rfl) ?_))
        first|refine Zhi rfl ?_|refine Zhj rfl ?_|(refine Zhh rfl ?_; (refine Zff rfl (((hrd.atN (j := 1) fcells_len hB (by omega) rfl).imp qI)) ?_))
        first|refine Zhi rfl ?_|refine Zhj rfl ?_|(refine Zhh rfl ?_; (refine Zhg (Zbp (b := 4) rfl rfl) ?_))
        refine Zhm 38 rfl (decide_eq_true (hk4)) ?_
        first|refine Zhg (Zdz rfl rfl) ?_|refine Zhg (Zd0 rfl rfl) ?_|refine Zhg (Za8 rfl rfl) ?_|refine Zhg (Za9 rfl rfl) ?_|refine Zhg (Za6 rfl rfl) ?_|refine Zhg (Za7 rfl rfl) ?_
        refine Zg3 ?_
        refine Ct.o ?_
        refine Zge rfl ?_
        refine Ct.o ?_
        refine Zgb ?_
        first|refine Zhg (Za0 rfl) ?_|refine Zhg (Zas rfl) ?_
        refine Zg3 ?_
        refine Ct.o ?_
        refine rx1 (Zha rfl (Zg7)) ?_
        exact ⟨_, ⟨rfl, rfl⟩, qI⟩
      have hkf : HostS.kindly fl[i] = true := by unfold HostS.kindly; simp; omega
      refine Ct.o ?_
      refine Zgb ?_
      first|refine Zhg (Zl8 rfl) ?_|refine Zhg (Zce rfl) ?_
      refine Zhp rfl qH rfl ?_
      first|refine Zhg (Zat rfl) ?_|refine Zhg (Zar rfl) ?_
      first|refine Zhg (Zl6 rfl rfl) ?_|refine Zhg (Zcg rfl rfl) ?_
      first|refine Zhg (Zl8 rfl) ?_|refine Zhg (Zce rfl) ?_
      refine Zff rfl (((hrd.atN (j := 1) fcells_len hB (by omega) rfl).imp qI)) ?_
      refine Zhg (Zbn (b := 0) rfl rfl) ?_
      refine Zhn 30 rfl (decide_eq_false (hk0)) ?_
      first|refine Zhg (Zau rfl) ?_|refine Zhg (Zar rfl) ?_
      first|refine Zhi rfl ?_|refine Zhj rfl ?_|(refine Zhh rfl ?_; (first|refine Zhg (Zl8 rfl) ?_|refine Zhg (Zce rfl) ?_))
      first|refine Zhi rfl ?_|refine Zhj rfl ?_|(refine Zhh rfl ?_; (refine Zhp rfl qH rfl ?_))
      first|refine Zhi rfl ?_|refine Zhj rfl ?_|(refine Zhh rfl ?_; (first|refine Zhg (Zat rfl) ?_|refine Zhg (Zar rfl) ?_))
      first|refine Zhi rfl ?_|refine Zhj rfl ?_|(refine Zhh rfl ?_; (first|refine Zhg (Zl6 rfl rfl) ?_|refine Zhg (Zcg rfl rfl) ?_))
      first|refine Zhi rfl ?_|refine Zhj rfl ?_|(refine Zhh rfl ?_; (first|refine Zhg (Zl8 rfl) ?_|refine Zhg (Zce rfl) ?_))
      first|refine Zhi rfl ?_|refine Zhj rfl ?_|(refine Zhh rfl ?_; (refine Zff rfl (((hrd.atN (j := 1) fcells_len hB (by omega) rfl).imp qI)) ?_))
      first|refine Zhi rfl ?_|refine Zhj rfl ?_|(refine Zhh rfl ?_; (refine Zhg (Zbp (b := 4) rfl rfl) ?_))
      refine Zhn 38 rfl (decide_eq_false (hk4)) ?_
      first|refine Zhg (Zdz rfl rfl) ?_|refine Zhg (Zd0 rfl rfl) ?_|refine Zhg (Za8 rfl rfl) ?_|refine Zhg (Za9 rfl rfl) ?_|refine Zhg (Za6 rfl rfl) ?_|refine Zhg (Za7 rfl rfl) ?_
      refine Zg3 ?_
      refine Ct.o ?_
      refine Zgf rfl ?_
      refine Ct.o ?_
      cases hsp : spoilsF fl[i] with
      | true =>
        rw [hsp, if_pos rfl, List.append_nil] at hks
        refine Ct.o ?_
        refine Zgb ?_
        first|refine Zhg (Zl8 rfl) ?_|refine Zhg (Zce rfl) ?_
        refine Zhp rfl qH rfl ?_
        first|refine Zhg (Zat rfl) ?_|refine Zhg (Zar rfl) ?_
        first|refine Zhg (Zl6 rfl rfl) ?_|refine Zhg (Zcg rfl rfl) ?_
        refine Zfg rfl (((hrd.agN fcells_len (by omega) hB).imp qI)) ?_
        refine Zh8 rfl (by kernel_rfl) (spoils_x fl[i]) rfl qT ?_
        rintro _ _ ⟨rfl, rfl⟩
        refine Zg2 qA ?_
        refine Zhg (Zb0 rfl) ?_
        refine Zhn 46 rfl (by rw [hsp]; rfl) ?_
        refine Zg3 ?_
        refine Ct.o ?_
        refine Zgf rfl ?_
        refine Ct.o ?_
        refine Zgb ?_
        first|refine Zhg (Zat rfl) ?_|refine Zhg (Zar rfl) ?_
        first|refine Zhg (Zma (b := 1) rfl rfl) ?_|refine Zhg (Zbg rfl rfl) ?_
        first|refine Zhg (Zaz rfl) ?_|refine Zhg (Zas rfl) ?_
        refine Zg3 ?_
        refine Ct.o ?_
        exact Zgl (i + 1, pa, pc) qO ⟨by dsimp only; omega, by dsimp only; rw [hky, hkf]⟩ (by dsimp only; rw [hks]; exact qI) ⟨rfl, by dsimp only; rw [hks]; rfl, trivial⟩
      | false =>
        rw [hsp, if_neg (by simp)] at hks
        refine Ct.o ?_
        refine Zgb ?_
        first|refine Zhg (Zl8 rfl) ?_|refine Zhg (Zce rfl) ?_
        refine Zhp rfl qH rfl ?_
        first|refine Zhg (Zat rfl) ?_|refine Zhg (Zar rfl) ?_
        first|refine Zhg (Zl6 rfl rfl) ?_|refine Zhg (Zcg rfl rfl) ?_
        refine Zfg rfl (((hrd.agN fcells_len (by omega) hB).imp qI)) ?_
        refine Zh8 rfl (by kernel_rfl) (spoils_x fl[i]) rfl qT ?_
        rintro _ _ ⟨rfl, rfl⟩
        refine Zg2 qA ?_
        refine Zhg (Zb0 rfl) ?_
        refine Zhm 46 rfl (by rw [hsp]; rfl) ?_
        refine Zg3 ?_
        refine Ct.o ?_
        refine Zge rfl ?_
        refine Ct.o ?_
        refine Zgb ?_
        first|refine Zhg (Zaw rfl) ?_|refine Zhg (Zar rfl) ?_
        first|refine Zhg (Zl8 rfl) ?_|refine Zhg (Zce rfl) ?_
        refine Zhp rfl qH rfl ?_
        first|refine Zhg (Zat rfl) ?_|refine Zhg (Zar rfl) ?_
        first|refine Zhg (Zl6 rfl rfl) ?_|refine Zhg (Zcg rfl rfl) ?_
        refine Zfg rfl (((hrd.agN fcells_len (by omega) hB).imp qI)) ?_
        refine Zh7 (cs := (fcells fl[i]).toArray) (by omega) (by omega) qF ?_; intro b53
        refine Zia rfl rfl qH (Rd.cl (xs := fcells fl[i]) qH rfl qZ rfl) (by first|rfl|exact oneM_u8 _|exact oneL_u8 _|exact fc_one _|exact fc_ones _|(simp [oneC]; done)) (by omega) qS ?_; intro a3 c3
        first|refine Zhg (Za2 rfl) ?_|refine Zhg (Zas rfl) ?_
        refine Zg3 ?_
        refine Ct.o ?_
        refine Zgb ?_
        first|refine Zhg (Zat rfl) ?_|refine Zhg (Zar rfl) ?_
        first|refine Zhg (Zma (b := 1) rfl rfl) ?_|refine Zhg (Zbg rfl rfl) ?_
        first|refine Zhg (Zaz rfl) ?_|refine Zhg (Zas rfl) ?_
        refine Zg3 ?_
        refine Ct.o ?_
        have e1 : (kept34 (fl.take i)).flatMap fcells ++ fcells fl[i] = (kept34 (fl.take (i + 1))).flatMap fcells := by rw [hks, List.flatMap_append]; simp
        have e2 : (kept34 (fl.take i)).length + 1 = (kept34 (fl.take (i + 1))).length := by rw [hks]; simp
        rw [e1, e2]
        exact Zgl (i + 1, a3, c3) qO ⟨by dsimp only; omega, by dsimp only; rw [hky, hkf]⟩ qI ⟨rfl, rfl, trivial⟩
    · have hie : i = fl.length := by omega
      subst hie
      rw [List.take_length] at hkd ⊢
      refine Ct.o ?_
      exact Zgk (pa, pc) hkd qI ⟨rfl, trivial⟩
  rintro ⟨pa, pc⟩ u hall
  dsimp only
  refine Ct.o ?_
  have hkl : (kept34 fl).length ≤ fl.length := List.length_filter_le _ _
  have hkok : ∀ f ∈ kept34 fl, HostS.FOk f := fun f hh => hf.ok f (List.mem_filter.1 hh).1
  have hkall : (kept34 fl).all HostS.kindly = true := by
    rw [List.all_eq_true]
    intro f hh
    exact List.all_eq_true.1 hall f (List.mem_filter.1 hh).1
  by_cases hfit : 0 ≤ pages ∧ pages ≤ 65536 ∧ 1 ≤ size ∧ size ≤ 4124
  · have hn1 := fun a c => new_ok (L := [own 28 6 (.slice a (fl ++ exL 5).length c) (fl ++ exL 5).length ((fl ++ exL 5).flatMap fcells)]) pages size (fl := fl) (by omega) hf.ok (rd_faults .here) ⟨hfit, hall⟩
    have hn2 := fun a c => new_ok (L := [own 28 6 (.slice a (kept34 fl).length c) (kept34 fl).length ((kept34 fl).flatMap fcells)]) pages size (fl := kept34 fl) (by omega) hkok (Rd.own .here) ⟨hfit, hkall⟩
    refine Ct.o ?_
    refine Zij ([cl b1 (lfc pages size (.slice fa fl.length fc) (.slice sa st.length sc)) 25]) [3, 5, 6] (.q 0 (.q 2 (.q 4 (.r 1 (.r 3 (.r 5 (.e 6 true (.e 7 false (.q 8 (.q 9 (.q 10 (.q 11 (.q 12 .nil))))))))))))) (by kernel_rfl) (by kernel_rfl) (Imp.arr qV) ?_
    first|refine Zim rfl (Zl8 rfl) ?_|refine Zim rfl (Zce rfl) ?_
    first|refine Zim rfl (Zl8 rfl) ?_|refine Zim rfl (Zce rfl) ?_
    first|refine Zim rfl (Zl8 rfl) ?_|refine Zim rfl (Zce rfl) ?_
    refine Ziv rfl rfl qH rfl ?_
    refine Ziv rfl rfl qH rfl ?_
    refine Ziv rfl rfl qH rfl ?_
    refine Ziq rfl ?_
    refine Zh8 rfl (by kernel_rfl) (faults_x (L := L) hf.rd hfl) rfl qT ?_
    rintro _ _ ⟨qa, qc, rfl, rfl⟩
    refine Zg2 qA ?_
    refine Zg3 ⟨fun _ => Imp.arr qV, ?_⟩
    refine Ziq rfl ?_
    refine Zh8 rfl (by kernel_rfl) (hn1 qa qc) rfl qT ?_
    rintro _ _ ⟨ph, rfl, rfl⟩
    refine Zg2 qA ?_
    refine Zg3 ⟨(fun hh => Bool.noConfusion hh), ?_⟩
    first|refine Zim rfl (Zmm rfl) ?_|refine Zim rfl (Zar rfl) ?_
    refine Zim rfl (Zco rfl rfl) ?_
    refine Zim rfl (Zco rfl rfl) ?_
    first|refine Zim rfl (Za1 rfl) ?_|refine Zim rfl (Zas rfl) ?_
    first|refine Zim rfl (Zaz rfl) ?_|refine Zim rfl (Zas rfl) ?_
    refine Zik ?_
    refine Ct.o ?_
    refine Zgb ?_
    first|refine Zhg (Zl8 rfl) ?_|refine Zhg (Zce rfl) ?_
    refine Zhp rfl qH rfl ?_
    first|refine Zhg (Zl8 rfl) ?_|refine Zhg (Zce rfl) ?_
    refine Zhp rfl qH rfl ?_
    first|refine Zhg (Zaw rfl) ?_|refine Zhg (Zar rfl) ?_
    refine Zh8 rfl (by kernel_rfl) (hn2 pa pc) rfl qT ?_
    rintro _ _ ⟨pg, rfl, rfl⟩
    refine Zg2 qA ?_
    first|refine Zhg (Zmm rfl) ?_|refine Zhg (Zar rfl) ?_
    refine Zhg (Zco rfl rfl) ?_
    refine Zhg (Zco rfl rfl) ?_
    first|refine Zhg (Za1 rfl) ?_|refine Zhg (Zas rfl) ?_
    first|refine Zhg (Zaz rfl) ?_|refine Zhg (Zas rfl) ?_
    refine Zg3 ?_
    refine Ct.o ?_
    refine Zgb ?_
    first|refine Zhr rfl qH qZ ?_|refine Zhq rfl qH qZ rfl ?_
    refine Zh8 rfl (by kernel_rfl) (fits_x) rfl qT ?_
    rintro _ _ ⟨rfl, rfl⟩
    refine Zg2 qA ?_
    refine Zhm 76 rfl (decide_eq_true (hfit)) ?_
    refine Zhg (Zb0 rfl) ?_
    refine Zhn 77 rfl (rfl) ?_
    refine Zg3 ?_
    refine Ct.o ?_
    refine Zgf rfl ?_
    refine Ct.o ?_
    refine Zgb ?_
    first|refine Zhg (Zat rfl) ?_|refine Zhg (Zar rfl) ?_
    first|refine Zhg (Zmk (b := 0) rfl rfl) ?_|refine Zhg (Zbs rfl rfl) ?_
    refine Zhn 85 rfl (decide_eq_false ((fun h => h rfl))) ?_
    first|refine Zhg (Zau rfl) ?_|refine Zhg (Zar rfl) ?_
    first|refine Zhi rfl ?_|refine Zhj rfl ?_|(refine Zhh rfl ?_; (first|refine Zhg (Zat rfl) ?_|refine Zhg (Zar rfl) ?_))
    first|refine Zhi rfl ?_|refine Zhj rfl ?_|(refine Zhh rfl ?_; (first|refine Zhg (Zmk (b := 0) rfl rfl) ?_|refine Zhg (Zbs rfl rfl) ?_))
    refine Zhn 88 rfl (decide_eq_false ((fun h => h rfl))) ?_
    first|refine Zhg (Zdz rfl rfl) ?_|refine Zhg (Zd0 rfl rfl) ?_|refine Zhg (Za8 rfl rfl) ?_|refine Zhg (Za9 rfl rfl) ?_|refine Zhg (Za6 rfl rfl) ?_|refine Zhg (Za7 rfl rfl) ?_
    first|refine Zhg (Zau rfl) ?_|refine Zhg (Zar rfl) ?_
    first|refine Zhi rfl ?_|refine Zhj rfl ?_|(refine Zhh rfl ?_; (first|refine Zhg (Zav rfl) ?_|refine Zhg (Zar rfl) ?_))
    first|refine Zhi rfl ?_|refine Zhj rfl ?_|(refine Zhh rfl ?_; (refine Zhg (Zca rfl rfl) ?_))
    refine Zhn 92 rfl (rfl) ?_
    first|refine Zhg (Zdz rfl rfl) ?_|refine Zhg (Zd0 rfl rfl) ?_|refine Zhg (Za8 rfl rfl) ?_|refine Zhg (Za9 rfl rfl) ?_|refine Zhg (Za6 rfl rfl) ?_|refine Zhg (Za7 rfl rfl) ?_
    first|refine Zhg (Zau rfl) ?_|refine Zhg (Zar rfl) ?_
    first|refine Zhi rfl ?_|refine Zhj rfl ?_|(refine Zhh rfl ?_; (first|refine Zhg (Zav rfl) ?_|refine Zhg (Zar rfl) ?_))
    first|refine Zhi rfl ?_|refine Zhj rfl ?_|(refine Zhh rfl ?_; (refine Zhg (Zca rfl rfl) ?_))
    refine Zhn 96 rfl (rfl) ?_
    first|refine Zhg (Zdz rfl rfl) ?_|refine Zhg (Zd0 rfl rfl) ?_|refine Zhg (Za8 rfl rfl) ?_|refine Zhg (Za9 rfl rfl) ?_|refine Zhg (Za6 rfl rfl) ?_|refine Zhg (Za7 rfl rfl) ?_
    refine Zg3 ?_
    refine Ct.o ?_
    refine Zgf rfl ?_
    refine Ct.o ?_
    refine Zgb ?_
    first|refine Zhg (Zaz rfl) ?_|refine Zhg (Zas rfl) ?_
    refine Zg3 ?_
    repeat (first|refine zA ?_|refine zB ?_|refine zD ?_|refine zE ?_|refine zF ?_|refine zG ?_|refine zH ?_|refine zI ?_|refine zJ ?_|refine zK ?_|refine zL ?_|refine zM rfl ?_|refine zN ?_|refine zO ?_|refine zP ?_|refine zQ ?_)
    have hok0 : HostS.Ok (HostS.fresh pages size.toNat fl) := ok_fresh pages size.toNat fl (by omega) hf.ok (by omega)
    refine Zgn [(2, 2), (9, 13), (98, 154)] (by kernel_rfl) (fun s : HostS.HS × HostS.HS => Tam s.1 s.2 ∧ LogOk s.1 ∧ s.1.ops ≤ st.length) (fun s => hostA ph s.1 :: hostA pg s.2 :: cl b1 (lfc pages size (.slice fa fl.length fc) (.slice sa st.length sc)) 25 :: L) (fun s => []) ?_ ?_
    · refine Ct.o ?_
      refine Zgo [(2, 2), (9, 13), (98, 154)] (by kernel_rfl) (fun s : Nat × HostS.HS × HostS.HS => s.1 ≤ st.length ∧ Tam s.2.1 s.2.2 ∧ Later fl s.2.1 ∧ LogOk s.2.1 ∧ s.2.1.ops ≤ s.1) (fun s => hostA ph s.2.1 :: hostA pg s.2.2 :: cl b1 (lfc pages size (.slice fa fl.length fc) (.slice sa st.length sc)) 25 :: L) (fun s => [(9, nvv s.1)]) (fun s => st.length - s.1) (0, HostS.fresh pages size.toNat fl, HostS.fresh pages size.toNat (kept34 fl)) ⟨Nat.zero_le _, tam_fresh _ _ _, fun k _ => rfl, (by intro t h; cases h), Nat.le_refl _⟩ qI ⟨rfl, trivial⟩ ?_
      rintro ⟨i, s, g⟩ u ⟨hi, hT, hlat, hlog, hops⟩
      dsimp only at hi hT hlat hlog hops ⊢
      refine Ct.o ?_
      refine Zgb ?_
      first|refine Zhg (Zat rfl) ?_|refine Zhg (Zar rfl) ?_
      first|refine Zhg (Zl8 rfl) ?_|refine Zhg (Zce rfl) ?_
      refine Zhp rfl qH rfl ?_
      first|refine Zhg (Zcr rfl) ?_|refine Zhg (Zct) ?_|refine Zhg (Zcu rfl) ?_
      first|refine Zhg (Zmf rfl rfl) ?_|refine Zhg (Zbn rfl rfl) ?_
      refine Zg3 ?_
      refine Ct.o ?_
      refine Zgg rfl (fun hB => ?_) (fun hB => ?_)
      · refine Zgt (fun F w H => host_ok (p := ph) (s := s) qH H) ?_
        intro hok
        refine Zgt (fun F w H => host_ok (p := pg) (s := g) qH H) ?_
        intro hok2
        refine Zgt (fun F w H => (hs.rd.imp (Imp.arr (M := _) qV)).someAt (by omega) H) ?_
        rintro ⟨s1, s2, rfl⟩
        obtain ⟨hbd, hbl⟩ := hs.el st[i] (List.getElem_mem hB)
        have hag := hs.at hB rfl
        obtain ⟨x, hx⟩ : ∃ x, x = st[i] := ⟨_, rfl⟩
        rw [← hx] at hbd hbl hag
        refine Zgt (fun F w H => (hbd.imp (Imp.arr (M := _) qV)).sh _ _ _ H) ?_
        rintro ⟨da, dc, hdv, _, _⟩
        rw [hdv] at hbd hag
        have ht := tam_told hT hok hok2 (pS x)
        have hlg := told_log (pS x) hok hlog
        have hlat' := later_told hlat (pS x)
        have hal := among_is hlat
        have hsame := ht.same
        have hlen := ht.len
        have hvv := ht.v
        have hT' := ht.st
        have hopg := hT.ops
        have hh1 := told_x (p := ph) (s := s) (L := L) (pS x) hbd (by omega) hbl
        have hh2 := told_x (p := pg) (s := g) (L := L) (pS x) hbd (by omega) hbl
        generalize HostS.toldR s (pS x) = R at hsame hlen hvv hT' hlg hlat' hh1
        generalize HostS.toldR g (pS x) = R' at hsame hlen hvv hT' hh2
        obtain ⟨⟨B, v, e⟩, s'⟩ := R
        obtain ⟨⟨B', v', e'⟩, g'⟩ := R'
        obtain ⟨hlog', hops'⟩ := hlg
        dsimp only at hsame hlen hvv hT' hlat' hh1 hh2 hlog' hops'
        obtain ⟨rfl, rfl⟩ : v' = v ∧ e' = e := by simpa using hvv
        have hops2 := ops_x (p := pg) (s := g')
        rw [hT'.ops] at hops2
        have hdown2 := down_x (p := pg) (s := g')
        rw [hT'.down] at hdown2
        have ham := among_x (L := L) (s.ops : Int) hf.rd (by omega)
        rw [hal] at ham
        refine Ct.o ?_
        refine Zgb ?_
        first|refine Zhg (Zl8 rfl) ?_|refine Zhg (Zce rfl) ?_
        refine Zhp rfl qH rfl ?_
        first|refine Zhg (Zat rfl) ?_|refine Zhg (Zar rfl) ?_
        first|refine Zhg (Zl6 rfl rfl) ?_|refine Zhg (Zcg rfl rfl) ?_
        refine Zfg rfl ((hag.imp qI)) ?_
        refine Zhz (cs := #[.int .i64 0, .int .i64 0, u64b 0#64, .slice none 0 0]) rfl ?_; intro b10
        first|refine Zhy rfl rfl qR qZ (by first|rfl|exact oneM_u8 _|exact oneL_u8 _|exact fc_one _|exact fc_ones _|(simp [oneC]; done)) qZ ?_|refine Zhx rfl rfl qR qZ (by first|rfl|exact oneM_u8 _|exact oneL_u8 _|exact fc_one _|exact fc_ones _|(simp [oneC]; done)) qZ rfl ?_
        refine Zg3 ?_
        refine Ct.o ?_
        refine Zgb ?_
        first|refine Zhg (Zav rfl) ?_|refine Zhg (Zar rfl) ?_
        refine Zh8 rfl (by kernel_rfl) (ops_x) rfl qT ?_
        rintro _ _ ⟨rfl, rfl⟩
        refine Zg2 qA ?_
        first|refine Zhg (Zaz rfl) ?_|refine Zhg (Zas rfl) ?_
        refine Zg3 ?_
        refine Ct.o ?_
        refine Zij ([cl b10 (stc (pS x) (.slice da x.data_.length dc)) 39]) [2, 4, 5, 6, 7] (.q 0 (.q 3 (.r 1 (.r 4 (.e 2 true (.e 5 true (.a 6 (.a 7 (.e 8 false (.e 9 false .nil)))))))))) (by kernel_rfl) (by kernel_rfl) (Imp.arr qV) ?_
        first|refine Zim rfl (Zav rfl) ?_|refine Zim rfl (Zar rfl) ?_
        first|refine Zim rfl (Zav rfl) ?_|refine Zim rfl (Zar rfl) ?_
        first|refine Ziy rfl rfl qH qZ ?_|refine Zix rfl rfl qH qZ rfl ?_
        first|refine Ziy rfl rfl qH qZ ?_|refine Zix rfl rfl qH qZ rfl ?_
        refine Ziq rfl ?_
        refine Zh8 rfl (by kernel_rfl) (hh1) rfl qT ?_
        rintro _ _ ⟨a1, k1, rfl, rfl⟩
        refine Zg2 qA ?_
        refine Zg3 ⟨fun _ => Imp.arr qV, ?_⟩
        refine Ziq rfl ?_
        refine Zh8 rfl (by kernel_rfl) (hh2) rfl qT ?_
        rintro _ _ ⟨a2, k2, rfl, rfl⟩
        refine Zg2 qA ?_
        refine Zg3 ⟨fun _ => Imp.arr qV, ?_⟩
        refine Zir rfl (cs := #[.slice none 0 0, u64b 0#64, .int .i64 0]) rfl ?_; intro b12
        refine Zir rfl (cs := #[.slice none 0 0, u64b 0#64, .int .i64 0]) rfl ?_; intro b13
        refine Ziq rfl ?_
        first|refine Zhy rfl rfl qR qZ (by first|rfl|exact oneM_u8 _|exact oneL_u8 _|exact fc_one _|exact fc_ones _|(simp [oneC]; done)) qZ ?_|refine Zhx rfl rfl qR qZ (by first|rfl|exact oneM_u8 _|exact oneL_u8 _|exact fc_one _|exact fc_ones _|(simp [oneC]; done)) qZ rfl ?_
        refine Zg3 ⟨(fun hh => Bool.noConfusion hh), ?_⟩
        refine Ziq rfl ?_
        first|refine Zhy rfl rfl qR qZ (by first|rfl|exact oneM_u8 _|exact oneL_u8 _|exact fc_one _|exact fc_ones _|(simp [oneC]; done)) qZ ?_|refine Zhx rfl rfl qR qZ (by first|rfl|exact oneM_u8 _|exact oneL_u8 _|exact fc_one _|exact fc_ones _|(simp [oneC]; done)) qZ rfl ?_
        refine Zg3 ⟨(fun hh => Bool.noConfusion hh), ?_⟩
        refine Zik ?_
        refine Ct.o ?_
        by_cases h1 : (pS x).do_ = 1
        · cases hsp : (s.coming s.ops).any spoilsF with
          | true =>
            clear hsame
            refine Ct.o ?_
            refine Zgb ?_
            first|refine Zhg (Zl8 rfl) ?_|refine Zhg (Zce rfl) ?_
            refine Zhp rfl qH rfl ?_
            first|refine Zhg (Zmj (b := 1) rfl rfl) ?_|refine Zhg (Zbr rfl rfl) ?_
            refine Zhm 120 rfl (decide_eq_true (h1)) ?_
            first|refine Zhg (Zau rfl) ?_|refine Zhg (Zar rfl) ?_
            first|refine Zhi rfl ?_|refine Zhj rfl ?_|(refine Zhh rfl ?_; (first|refine Zhg (Zl8 rfl) ?_|refine Zhg (Zce rfl) ?_))
            first|refine Zhi rfl ?_|refine Zhj rfl ?_|(refine Zhh rfl ?_; (refine Zhp rfl qH rfl ?_))
            first|refine Zhi rfl ?_|refine Zhj rfl ?_|(refine Zhh rfl ?_; (first|refine Zhg (Zat rfl) ?_|refine Zhg (Zar rfl) ?_))
            first|refine Zhi rfl ?_|refine Zhj rfl ?_|(refine Zhh rfl ?_; (refine Zh8 rfl (by kernel_rfl) (ham) rfl qT ?_); (rintro _ _ ⟨rfl, rfl⟩); (refine Zg2 qA ?_))
            refine Zhm 125 rfl (hsp) ?_
            first|refine Zhg (Zdz rfl rfl) ?_|refine Zhg (Zd0 rfl rfl) ?_|refine Zhg (Za8 rfl rfl) ?_|refine Zhg (Za9 rfl rfl) ?_|refine Zhg (Za6 rfl rfl) ?_|refine Zhg (Za7 rfl rfl) ?_
            refine Zg3 ?_
            refine Ct.o ?_
            refine Zge rfl ?_
            refine Ct.o ?_
            refine Zgb ?_
            first|refine Zhg (Zl8 rfl) ?_|refine Zhg (Zce rfl) ?_
            refine Zhp rfl qH rfl ?_
            first|refine Zhg (Zcr rfl) ?_|refine Zhg (Zct) ?_|refine Zhg (Zcu rfl) ?_
            first|refine Zhg (Zl8 rfl) ?_|refine Zhg (Zce rfl) ?_
            refine Zhp rfl qH rfl ?_
            first|refine Zhg (Zcr rfl) ?_|refine Zhg (Zct) ?_|refine Zhg (Zcu rfl) ?_
            first|refine Zhg (Zmk rfl rfl) ?_|refine Zhg (Zbs rfl rfl) ?_
            refine Zhn 133 rfl (decide_eq_false ((fun h => h hlen.symm))) ?_
            refine Zg3 ?_
            refine Ct.o ?_
            refine Zgf rfl ?_
            refine Ct.o ?_
            refine Zgb ?_
            first|refine Zhg (Zl8 rfl) ?_|refine Zhg (Zce rfl) ?_
            refine Zhp rfl qH rfl ?_
            first|refine Zhg (Zl8 rfl) ?_|refine Zhg (Zce rfl) ?_
            refine Zhw rfl rfl qR qZ rfl ?_
            refine Zg3 ?_
            refine Ct.o ?_
            refine Zgb ?_
            first|refine Zhr rfl qH qZ ?_|refine Zhq rfl qH qZ rfl ?_
            first|refine Zhr rfl qH qZ ?_|refine Zhq rfl qH qZ rfl ?_
            refine Zh8 rfl (by kernel_rfl) (sameTold_x (L := [ownB a1 k1 B, ownB a2 k2 B']) (Bs.own (.there .here)) (Bs.own (.there .here))) rfl qT ?_
            rintro _ _ ⟨rfl, rfl⟩
            refine Zg2 qA ?_
            refine Zhm 139 rfl (decide_eq_true (⟨rfl, rfl, rfl⟩)) ?_
            refine Zhg (Zb0 rfl) ?_
            refine Zhn 140 rfl (rfl) ?_
            first|refine Zhg (Zau rfl) ?_|refine Zhg (Zar rfl) ?_
            first|refine Zhi rfl ?_|refine Zhj rfl ?_|(refine Zhh rfl ?_; (first|refine Zhg (Zav rfl) ?_|refine Zhg (Zar rfl) ?_))
            first|refine Zhi rfl ?_|refine Zhj rfl ?_|(refine Zhh rfl ?_; (refine Zh8 rfl (by kernel_rfl) (ops_x) rfl qT ?_); (rintro _ _ ⟨rfl, rfl⟩); (refine Zg2 qA ?_))
            first|refine Zhi rfl ?_|refine Zhj rfl ?_|(refine Zhh rfl ?_; (first|refine Zhg (Zav rfl) ?_|refine Zhg (Zar rfl) ?_))
            first|refine Zhi rfl ?_|refine Zhj rfl ?_|(refine Zhh rfl ?_; (refine Zh8 rfl (by kernel_rfl) (hops2) rfl qT ?_); (rintro _ _ ⟨rfl, rfl⟩); (refine Zg2 qA ?_))
            first|refine Zhi rfl ?_|refine Zhj rfl ?_|(refine Zhh rfl ?_; (first|refine Zhg (Zmk rfl rfl) ?_|refine Zhg (Zbs rfl rfl) ?_))
            refine Zhn 146 rfl (decide_eq_false ((fun h => h rfl))) ?_
            first|refine Zhg (Zdz rfl rfl) ?_|refine Zhg (Zd0 rfl rfl) ?_|refine Zhg (Za8 rfl rfl) ?_|refine Zhg (Za9 rfl rfl) ?_|refine Zhg (Za6 rfl rfl) ?_|refine Zhg (Za7 rfl rfl) ?_
            first|refine Zhg (Zau rfl) ?_|refine Zhg (Zar rfl) ?_
            first|refine Zhi rfl ?_|refine Zhj rfl ?_|(refine Zhh rfl ?_; (first|refine Zhg (Zav rfl) ?_|refine Zhg (Zar rfl) ?_))
            first|refine Zhi rfl ?_|refine Zhj rfl ?_|(refine Zhh rfl ?_; (refine Zh8 rfl (by kernel_rfl) (down_x) rfl qT ?_); (rintro _ _ ⟨rfl, rfl⟩); (refine Zg2 qA ?_))
            first|refine Zhi rfl ?_|refine Zhj rfl ?_|(refine Zhh rfl ?_; (first|refine Zhg (Zav rfl) ?_|refine Zhg (Zar rfl) ?_))
            first|refine Zhi rfl ?_|refine Zhj rfl ?_|(refine Zhh rfl ?_; (refine Zh8 rfl (by kernel_rfl) (hdown2) rfl qT ?_); (rintro _ _ ⟨rfl, rfl⟩); (refine Zg2 qA ?_))
            first|refine Zhi rfl ?_|refine Zhj rfl ?_|(refine Zhh rfl ?_; (refine Zhg (Zb8 rfl rfl) ?_))
            refine Zhn 153 rfl (bne_self_eq_false' ..) ?_
            first|refine Zhg (Zdz rfl rfl) ?_|refine Zhg (Zd0 rfl rfl) ?_|refine Zhg (Za8 rfl rfl) ?_|refine Zhg (Za9 rfl rfl) ?_|refine Zhg (Za6 rfl rfl) ?_|refine Zhg (Za7 rfl rfl) ?_
            refine Zg3 ?_
            refine Ct.o ?_
            refine Zgf rfl ?_
            refine Ct.o ?_
            refine Zgb ?_
            first|refine Zhg (Zat rfl) ?_|refine Zhg (Zar rfl) ?_
            first|refine Zhg (Zma (b := 1) rfl rfl) ?_|refine Zhg (Zbg rfl rfl) ?_
            first|refine Zhg (Zaz rfl) ?_|refine Zhg (Zas rfl) ?_
            refine Zg3 ?_
            refine Ct.o ?_
            exact Zgl (i + 1, s', g') qO ⟨by dsimp only; omega, hT', hlat', hlog', by dsimp only; omega⟩ qI ⟨rfl, trivial⟩
          | false =>
            have hsame := hsame (fun h => by rw [hsp] at h; cases h.2)
            refine Ct.o ?_
            refine Zgb ?_
            first|refine Zhg (Zl8 rfl) ?_|refine Zhg (Zce rfl) ?_
            refine Zhp rfl qH rfl ?_
            first|refine Zhg (Zmj (b := 1) rfl rfl) ?_|refine Zhg (Zbr rfl rfl) ?_
            refine Zhm 120 rfl (decide_eq_true (h1)) ?_
            first|refine Zhg (Zau rfl) ?_|refine Zhg (Zar rfl) ?_
            first|refine Zhi rfl ?_|refine Zhj rfl ?_|(refine Zhh rfl ?_; (first|refine Zhg (Zl8 rfl) ?_|refine Zhg (Zce rfl) ?_))
            first|refine Zhi rfl ?_|refine Zhj rfl ?_|(refine Zhh rfl ?_; (refine Zhp rfl qH rfl ?_))
            first|refine Zhi rfl ?_|refine Zhj rfl ?_|(refine Zhh rfl ?_; (first|refine Zhg (Zat rfl) ?_|refine Zhg (Zar rfl) ?_))
            first|refine Zhi rfl ?_|refine Zhj rfl ?_|(refine Zhh rfl ?_; (refine Zh8 rfl (by kernel_rfl) (ham) rfl qT ?_); (rintro _ _ ⟨rfl, rfl⟩); (refine Zg2 qA ?_))
            refine Zhn 125 rfl (hsp) ?_
            first|refine Zhg (Zdz rfl rfl) ?_|refine Zhg (Zd0 rfl rfl) ?_|refine Zhg (Za8 rfl rfl) ?_|refine Zhg (Za9 rfl rfl) ?_|refine Zhg (Za6 rfl rfl) ?_|refine Zhg (Za7 rfl rfl) ?_
            refine Zg3 ?_
            refine Ct.o ?_
            refine Zgf rfl ?_
            refine Ct.o ?_
            refine Zgb ?_
            first|refine Zhr rfl qH qZ ?_|refine Zhq rfl qH qZ rfl ?_
            first|refine Zhr rfl qH qZ ?_|refine Zhq rfl qH qZ rfl ?_
            refine Zh8 rfl (by kernel_rfl) (sameTold_x (L := [ownB a1 k1 B, ownB a2 k2 B']) (Bs.own .here) (Bs.own (.there .here))) rfl qT ?_
            rintro _ _ ⟨rfl, rfl⟩
            refine Zg2 qA ?_
            refine Zhm 139 rfl (decide_eq_true (⟨hsame.symm, rfl, rfl⟩)) ?_
            refine Zhg (Zb0 rfl) ?_
            refine Zhn 140 rfl (rfl) ?_
            first|refine Zhg (Zau rfl) ?_|refine Zhg (Zar rfl) ?_
            first|refine Zhi rfl ?_|refine Zhj rfl ?_|(refine Zhh rfl ?_; (first|refine Zhg (Zav rfl) ?_|refine Zhg (Zar rfl) ?_))
            first|refine Zhi rfl ?_|refine Zhj rfl ?_|(refine Zhh rfl ?_; (refine Zh8 rfl (by kernel_rfl) (ops_x) rfl qT ?_); (rintro _ _ ⟨rfl, rfl⟩); (refine Zg2 qA ?_))
            first|refine Zhi rfl ?_|refine Zhj rfl ?_|(refine Zhh rfl ?_; (first|refine Zhg (Zav rfl) ?_|refine Zhg (Zar rfl) ?_))
            first|refine Zhi rfl ?_|refine Zhj rfl ?_|(refine Zhh rfl ?_; (refine Zh8 rfl (by kernel_rfl) (hops2) rfl qT ?_); (rintro _ _ ⟨rfl, rfl⟩); (refine Zg2 qA ?_))
            first|refine Zhi rfl ?_|refine Zhj rfl ?_|(refine Zhh rfl ?_; (first|refine Zhg (Zmk rfl rfl) ?_|refine Zhg (Zbs rfl rfl) ?_))
            refine Zhn 146 rfl (decide_eq_false ((fun h => h rfl))) ?_
            first|refine Zhg (Zdz rfl rfl) ?_|refine Zhg (Zd0 rfl rfl) ?_|refine Zhg (Za8 rfl rfl) ?_|refine Zhg (Za9 rfl rfl) ?_|refine Zhg (Za6 rfl rfl) ?_|refine Zhg (Za7 rfl rfl) ?_
            first|refine Zhg (Zau rfl) ?_|refine Zhg (Zar rfl) ?_
            first|refine Zhi rfl ?_|refine Zhj rfl ?_|(refine Zhh rfl ?_; (first|refine Zhg (Zav rfl) ?_|refine Zhg (Zar rfl) ?_))
            first|refine Zhi rfl ?_|refine Zhj rfl ?_|(refine Zhh rfl ?_; (refine Zh8 rfl (by kernel_rfl) (down_x) rfl qT ?_); (rintro _ _ ⟨rfl, rfl⟩); (refine Zg2 qA ?_))
            first|refine Zhi rfl ?_|refine Zhj rfl ?_|(refine Zhh rfl ?_; (first|refine Zhg (Zav rfl) ?_|refine Zhg (Zar rfl) ?_))
            first|refine Zhi rfl ?_|refine Zhj rfl ?_|(refine Zhh rfl ?_; (refine Zh8 rfl (by kernel_rfl) (hdown2) rfl qT ?_); (rintro _ _ ⟨rfl, rfl⟩); (refine Zg2 qA ?_))
            first|refine Zhi rfl ?_|refine Zhj rfl ?_|(refine Zhh rfl ?_; (refine Zhg (Zb8 rfl rfl) ?_))
            refine Zhn 153 rfl (bne_self_eq_false' ..) ?_
            first|refine Zhg (Zdz rfl rfl) ?_|refine Zhg (Zd0 rfl rfl) ?_|refine Zhg (Za8 rfl rfl) ?_|refine Zhg (Za9 rfl rfl) ?_|refine Zhg (Za6 rfl rfl) ?_|refine Zhg (Za7 rfl rfl) ?_
            refine Zg3 ?_
            refine Ct.o ?_
            refine Zgf rfl ?_
            refine Ct.o ?_
            refine Zgb ?_
            first|refine Zhg (Zat rfl) ?_|refine Zhg (Zar rfl) ?_
            first|refine Zhg (Zma (b := 1) rfl rfl) ?_|refine Zhg (Zbg rfl rfl) ?_
            first|refine Zhg (Zaz rfl) ?_|refine Zhg (Zas rfl) ?_
            refine Zg3 ?_
            refine Ct.o ?_
            exact Zgl (i + 1, s', g') qO ⟨by dsimp only; omega, hT', hlat', hlog', by dsimp only; omega⟩ qI ⟨rfl, trivial⟩
        · have hsame := hsame (fun h => h1 h.1)
          refine Ct.o ?_
          refine Zgb ?_
          first|refine Zhg (Zl8 rfl) ?_|refine Zhg (Zce rfl) ?_
          refine Zhp rfl qH rfl ?_
          first|refine Zhg (Zmj (b := 1) rfl rfl) ?_|refine Zhg (Zbr rfl rfl) ?_
          refine Zhn 120 rfl (decide_eq_false (h1)) ?_
          first|refine Zhg (Zau rfl) ?_|refine Zhg (Zar rfl) ?_
          first|refine Zhi rfl ?_|refine Zhj rfl ?_|(refine Zhh rfl ?_; (first|refine Zhg (Zl8 rfl) ?_|refine Zhg (Zce rfl) ?_))
          first|refine Zhi rfl ?_|refine Zhj rfl ?_|(refine Zhh rfl ?_; (refine Zhp rfl qH rfl ?_))
          first|refine Zhi rfl ?_|refine Zhj rfl ?_|(refine Zhh rfl ?_; (first|refine Zhg (Zat rfl) ?_|refine Zhg (Zar rfl) ?_))
          first|refine Zhi rfl ?_|refine Zhj rfl ?_
          first|refine Zhg (Zdz rfl rfl) ?_|refine Zhg (Zd0 rfl rfl) ?_|refine Zhg (Za8 rfl rfl) ?_|refine Zhg (Za9 rfl rfl) ?_|refine Zhg (Za6 rfl rfl) ?_|refine Zhg (Za7 rfl rfl) ?_
          refine Zg3 ?_
          refine Ct.o ?_
          refine Zgf rfl ?_
          refine Ct.o ?_
          refine Zgb ?_
          first|refine Zhr rfl qH qZ ?_|refine Zhq rfl qH qZ rfl ?_
          first|refine Zhr rfl qH qZ ?_|refine Zhq rfl qH qZ rfl ?_
          refine Zh8 rfl (by kernel_rfl) (sameTold_x (L := [ownB a1 k1 B, ownB a2 k2 B']) (Bs.own .here) (Bs.own (.there .here))) rfl qT ?_
          rintro _ _ ⟨rfl, rfl⟩
          refine Zg2 qA ?_
          refine Zhm 139 rfl (decide_eq_true (⟨hsame.symm, rfl, rfl⟩)) ?_
          refine Zhg (Zb0 rfl) ?_
          refine Zhn 140 rfl (rfl) ?_
          first|refine Zhg (Zau rfl) ?_|refine Zhg (Zar rfl) ?_
          first|refine Zhi rfl ?_|refine Zhj rfl ?_|(refine Zhh rfl ?_; (first|refine Zhg (Zav rfl) ?_|refine Zhg (Zar rfl) ?_))
          first|refine Zhi rfl ?_|refine Zhj rfl ?_|(refine Zhh rfl ?_; (refine Zh8 rfl (by kernel_rfl) (ops_x) rfl qT ?_); (rintro _ _ ⟨rfl, rfl⟩); (refine Zg2 qA ?_))
          first|refine Zhi rfl ?_|refine Zhj rfl ?_|(refine Zhh rfl ?_; (first|refine Zhg (Zav rfl) ?_|refine Zhg (Zar rfl) ?_))
          first|refine Zhi rfl ?_|refine Zhj rfl ?_|(refine Zhh rfl ?_; (refine Zh8 rfl (by kernel_rfl) (hops2) rfl qT ?_); (rintro _ _ ⟨rfl, rfl⟩); (refine Zg2 qA ?_))
          first|refine Zhi rfl ?_|refine Zhj rfl ?_|(refine Zhh rfl ?_; (first|refine Zhg (Zmk rfl rfl) ?_|refine Zhg (Zbs rfl rfl) ?_))
          refine Zhn 146 rfl (decide_eq_false ((fun h => h rfl))) ?_
          first|refine Zhg (Zdz rfl rfl) ?_|refine Zhg (Zd0 rfl rfl) ?_|refine Zhg (Za8 rfl rfl) ?_|refine Zhg (Za9 rfl rfl) ?_|refine Zhg (Za6 rfl rfl) ?_|refine Zhg (Za7 rfl rfl) ?_
          first|refine Zhg (Zau rfl) ?_|refine Zhg (Zar rfl) ?_
          first|refine Zhi rfl ?_|refine Zhj rfl ?_|(refine Zhh rfl ?_; (first|refine Zhg (Zav rfl) ?_|refine Zhg (Zar rfl) ?_))
          first|refine Zhi rfl ?_|refine Zhj rfl ?_|(refine Zhh rfl ?_; (refine Zh8 rfl (by kernel_rfl) (down_x) rfl qT ?_); (rintro _ _ ⟨rfl, rfl⟩); (refine Zg2 qA ?_))
          first|refine Zhi rfl ?_|refine Zhj rfl ?_|(refine Zhh rfl ?_; (first|refine Zhg (Zav rfl) ?_|refine Zhg (Zar rfl) ?_))
          first|refine Zhi rfl ?_|refine Zhj rfl ?_|(refine Zhh rfl ?_; (refine Zh8 rfl (by kernel_rfl) (hdown2) rfl qT ?_); (rintro _ _ ⟨rfl, rfl⟩); (refine Zg2 qA ?_))
          first|refine Zhi rfl ?_|refine Zhj rfl ?_|(refine Zhh rfl ?_; (refine Zhg (Zb8 rfl rfl) ?_))
          refine Zhn 153 rfl (bne_self_eq_false' ..) ?_
          first|refine Zhg (Zdz rfl rfl) ?_|refine Zhg (Zd0 rfl rfl) ?_|refine Zhg (Za8 rfl rfl) ?_|refine Zhg (Za9 rfl rfl) ?_|refine Zhg (Za6 rfl rfl) ?_|refine Zhg (Za7 rfl rfl) ?_
          refine Zg3 ?_
          refine Ct.o ?_
          refine Zgf rfl ?_
          refine Ct.o ?_
          refine Zgb ?_
          first|refine Zhg (Zat rfl) ?_|refine Zhg (Zar rfl) ?_
          first|refine Zhg (Zma (b := 1) rfl rfl) ?_|refine Zhg (Zbg rfl rfl) ?_
          first|refine Zhg (Zaz rfl) ?_|refine Zhg (Zas rfl) ?_
          refine Zg3 ?_
          refine Ct.o ?_
          exact Zgl (i + 1, s', g') qO ⟨by dsimp only; omega, hT', hlat', hlog', by dsimp only; omega⟩ qI ⟨rfl, trivial⟩
      · have hie : i = st.length := by omega
        refine Ct.o ?_
        exact Zgk (s, g) ⟨hT, hlog, by dsimp only; omega⟩ qI trivial
    rintro ⟨s, g⟩ u ⟨hT, hlog, hops⟩
    dsimp only at hT hlog hops ⊢
    refine Ct.o ?_
    refine Zgb ?_
    first|refine Zhg (Zaz rfl) ?_|refine Zhg (Zas rfl) ?_
    refine Zg3 ?_
    refine Ct.o ?_
    have hlog2 : LogOk g := by unfold LogOk; rw [hT.log]; exact hlog
    have hlies2 := fun page => lies_x (p := pg) (s := g) page (by rw [hT.ops]; omega)
    have hle : ∀ page, HostS.liesR g page = HostS.liesR s page := fun page => by unfold HostS.liesR; rw [tam_back hT]; simp only [tam_there hT]
    refine Zgo [(2, 2), (14, 14), (155, 179)] (by kernel_rfl) (fun i : Nat => i ≤ st.length) (fun _ => hostA ph s :: hostA pg g :: cl b1 (lfc pages size (.slice fa fl.length fc) (.slice sa st.length sc)) 25 :: L) (fun i => [(14, nvv i)]) (fun i => st.length - i) 0 (Nat.zero_le _) qI ⟨rfl, trivial⟩ ?_
    intro i u hi
    refine Ct.o ?_
    refine Zgb ?_
    first|refine Zhg (Zat rfl) ?_|refine Zhg (Zar rfl) ?_
    first|refine Zhg (Zl8 rfl) ?_|refine Zhg (Zce rfl) ?_
    refine Zhp rfl qH rfl ?_
    first|refine Zhg (Zcr rfl) ?_|refine Zhg (Zct) ?_|refine Zhg (Zcu rfl) ?_
    first|refine Zhg (Zmf rfl rfl) ?_|refine Zhg (Zbn rfl rfl) ?_
    refine Zg3 ?_
    refine Ct.o ?_
    refine Zgg rfl (fun hB => ?_) (fun hB => ?_)
    · refine Zgt (fun F w H => (hs.rd.imp (Imp.arr (M := _) qV)).someAt (by omega) H) ?_
      rintro ⟨s1, s2, rfl⟩
      have hpg : RdAt L s1 (s2 + i * 4 + 1) (.int .i64 st[i].page_) := hs.rd.atN step_len hB (by omega) rfl
      have hlx := hlies2 st[i].page_
      rw [hle] at hlx
      refine Ct.o ?_
      refine Zij ((cl b1 (lfc pages size (.slice fa fl.length fc) (.slice (some ⟨s1, s2, none⟩) st.length sc)) 25 :: L)) [7, 10, 12, 13, 14] (.q 0 (.q 1 (.q 3 (.q 8 (.q 9 (.q 11 (.r 2 (.q 4 (.q 5 (.r 6 (.r 10 (.r 12 (.r 13 (.r 14 (.e 7 true (.e 15 false (.e 16 false (.q 17 .nil)))))))))))))))))) (by kernel_rfl) (by kernel_rfl) (Imp.arr qV) ?_
      first|refine Zim rfl (Zav rfl) ?_|refine Zim rfl (Zar rfl) ?_
      first|refine Zim rfl (Zl8 rfl) ?_|refine Zim rfl (Zce rfl) ?_
      first|refine Zim rfl (Zat rfl) ?_|refine Zim rfl (Zar rfl) ?_
      first|refine Zim rfl (Zav rfl) ?_|refine Zim rfl (Zar rfl) ?_
      first|refine Zim rfl (Zl8 rfl) ?_|refine Zim rfl (Zce rfl) ?_
      first|refine Zim rfl (Zat rfl) ?_|refine Zim rfl (Zar rfl) ?_
      refine Ziv rfl rfl qH rfl ?_
      first|refine Zim rfl (Zl6 rfl rfl) ?_|refine Zim rfl (Zcg rfl rfl) ?_
      first|refine Zim rfl (Zl8 rfl) ?_|refine Zim rfl (Zce rfl) ?_
      refine Zfh rfl rfl ((hpg.imp qI)) ?_
      refine Ziv rfl rfl qH rfl ?_
      first|refine Ziz rfl (Zl6 rfl rfl) ?_|refine Ziz rfl (Zcg rfl rfl) ?_
      first|refine Ziz rfl (Zl8 rfl) ?_|refine Ziz rfl (Zce rfl) ?_
      refine Zfh rfl rfl ((hpg.imp qI)) ?_
      refine Ziq rfl ?_
      refine Zh8 rfl (by kernel_rfl) (lies_x (p := ph) (s := s) st[i].page_ (by omega)) rfl qT ?_
      rintro _ _ ⟨a1, k1, rfl, rfl⟩
      refine Zg2 qA ?_
      refine Zg3 ⟨fun _ => Imp.arr qV, ?_⟩
      refine Ziq rfl ?_
      refine Zh8 rfl (by kernel_rfl) (hlx) rfl qT ?_
      rintro _ _ ⟨a2, k2, rfl, rfl⟩
      refine Zg2 qA ?_
      refine Zg3 ⟨(fun hh => Bool.noConfusion hh), ?_⟩
      refine Ziq rfl ?_
      refine Zh8 rfl (by kernel_rfl) (eqBytes_x (L := [ownB a1 k1 (HostS.liesR s st[i].page_), ownB a2 k2 (HostS.liesR s st[i].page_)]) (a := HostS.liesR s st[i].page_) (b := HostS.liesR s st[i].page_) (Bs.own .here) (Bs.own (.there .here))) rfl qT ?_
      rintro _ _ ⟨rfl, rfl⟩
      refine Zg2 qA ?_
      refine Zg3 ⟨(fun hh => Bool.noConfusion hh), ?_⟩
      refine Zi5 178 rfl (decide_eq_true (rfl)) ?_
      refine Zim rfl (Zb0 rfl) ?_
      refine Zi6 179 rfl (rfl) ?_
      refine Zik ?_
      refine Ct.o ?_
      refine Zgf rfl ?_
      refine Ct.o ?_
      refine Zgb ?_
      first|refine Zhg (Zat rfl) ?_|refine Zhg (Zar rfl) ?_
      first|refine Zhg (Zma (b := 1) rfl rfl) ?_|refine Zhg (Zbg rfl rfl) ?_
      first|refine Zhg (Zaz rfl) ?_|refine Zhg (Zas rfl) ?_
      refine Zg3 ?_
      refine Ct.o ?_
      exact Zgl (i + 1) qO (by omega) qI ⟨rfl, trivial⟩
    · refine Ct.o ?_
      have hg1 := log_x (p := ph) (s := s) (by omega)
      have hg2 := log_x (p := pg) (s := g) (by rw [hT.ops]; omega)
      rw [hT.log] at hg2
      obtain ⟨ol, hol⟩ := sub_of hlog
      have hoc : s.log.flatMap tcells = ol.flatMap ocells := by rw [hol, List.flatMap_map]; rfl
      have holl : s.log.length = ol.length := by rw [hol, List.length_map]
      refine Zgt (fun F w H => host_ok (p := ph) (s := s) qH H) ?_
      intro hok
      have hll := hok.log
      refine Ct.o ?_
      refine Zgb ?_
      first|refine Zhg (Zav rfl) ?_|refine Zhg (Zar rfl) ?_
      refine Zh8 rfl (by kernel_rfl) (hg1) rfl qT ?_
      rintro _ _ ⟨l1, m1, rfl, rfl⟩
      refine Zg2 qA ?_
      first|refine Zhg (Zav rfl) ?_|refine Zhg (Zar rfl) ?_
      refine Zh8 rfl (by kernel_rfl) (hg2) rfl qT ?_
      rintro _ _ ⟨l2, m2, rfl, rfl⟩
      refine Zg2 qA ?_
      refine Zh8 rfl (by kernel_rfl) (sameLog_x (L := [ownLog l1 m1 s.log, ownLog l2 m2 s.log]) (a := ol) (b := ol) (by rw [← holl, ← hoc]; exact Rd.own .here) (by rw [← holl, ← hoc]; exact Rd.own (.there .here)) (by omega) (by omega)) rfl qT ?_
      rintro _ _ ⟨rfl, rfl⟩
      refine Zg2 qA ?_
      refine Zhm 184 rfl (decide_eq_true (rfl)) ?_
      first|refine Zhg (Za0 rfl) ?_|refine Zhg (Zas rfl) ?_
      refine Zg3 ?_
      refine Ct.o ?_
      refine rx1 (Zha rfl (Zg7)) ?_
      exact ⟨_, ⟨rfl, rfl⟩, qI⟩
  · have hn1 := fun a c => new_no (L := [own 28 6 (.slice a (fl ++ exL 5).length c) (fl ++ exL 5).length ((fl ++ exL 5).flatMap fcells)]) pages size (fl := fl) (by omega) hf.ok (rd_faults .here) (fun h => hfit h.1)
    have hn2 := fun a c => new_no (L := [own 28 6 (.slice a (kept34 fl).length c) (kept34 fl).length ((kept34 fl).flatMap fcells)]) pages size (fl := kept34 fl) (by omega) hkok (Rd.own .here) (fun h => hfit h.1)
    refine Ct.o ?_
    refine Zij ([cl b1 (lfc pages size (.slice fa fl.length fc) (.slice sa st.length sc)) 25]) [3, 5, 6] (.q 0 (.q 2 (.q 4 (.r 1 (.r 3 (.r 5 (.e 6 true (.e 7 false (.q 8 (.q 9 (.q 10 (.q 11 (.q 12 .nil))))))))))))) (by kernel_rfl) (by kernel_rfl) (Imp.arr qV) ?_
    first|refine Zim rfl (Zl8 rfl) ?_|refine Zim rfl (Zce rfl) ?_
    first|refine Zim rfl (Zl8 rfl) ?_|refine Zim rfl (Zce rfl) ?_
    first|refine Zim rfl (Zl8 rfl) ?_|refine Zim rfl (Zce rfl) ?_
    refine Ziv rfl rfl qH rfl ?_
    refine Ziv rfl rfl qH rfl ?_
    refine Ziv rfl rfl qH rfl ?_
    refine Ziq rfl ?_
    refine Zh8 rfl (by kernel_rfl) (faults_x (L := L) hf.rd hfl) rfl qT ?_
    rintro _ _ ⟨qa, qc, rfl, rfl⟩
    refine Zg2 qA ?_
    refine Zg3 ⟨fun _ => Imp.arr qV, ?_⟩
    refine Ziq rfl ?_
    refine Zh8 rfl (by kernel_rfl) (hn1 qa qc) rfl qT ?_
    rintro _ _ ⟨rfl, rfl⟩
    refine Zg2 qA ?_
    refine Zg3 ⟨(fun hh => Bool.noConfusion hh), ?_⟩
    first|refine Zim rfl (Zmm rfl) ?_|refine Zim rfl (Zar rfl) ?_
    refine Zim rfl (Zco rfl rfl) ?_
    refine Zim rfl (Zco rfl rfl) ?_
    first|refine Zim rfl (Za1 rfl) ?_|refine Zim rfl (Zas rfl) ?_
    first|refine Zim rfl (Zaz rfl) ?_|refine Zim rfl (Zas rfl) ?_
    refine Zik ?_
    refine Ct.o ?_
    refine Zgb ?_
    first|refine Zhg (Zl8 rfl) ?_|refine Zhg (Zce rfl) ?_
    refine Zhp rfl qH rfl ?_
    first|refine Zhg (Zl8 rfl) ?_|refine Zhg (Zce rfl) ?_
    refine Zhp rfl qH rfl ?_
    first|refine Zhg (Zaw rfl) ?_|refine Zhg (Zar rfl) ?_
    refine Zh8 rfl (by kernel_rfl) (hn2 pa pc) rfl qT ?_
    rintro _ _ ⟨rfl, rfl⟩
    refine Zg2 qA ?_
    first|refine Zhg (Zmm rfl) ?_|refine Zhg (Zar rfl) ?_
    refine Zhg (Zco rfl rfl) ?_
    refine Zhg (Zco rfl rfl) ?_
    first|refine Zhg (Za1 rfl) ?_|refine Zhg (Zas rfl) ?_
    first|refine Zhg (Zaz rfl) ?_|refine Zhg (Zas rfl) ?_
    refine Zg3 ?_
    refine Ct.o ?_
    refine Zgb ?_
    first|refine Zhr rfl qH qZ ?_|refine Zhq rfl qH qZ rfl ?_
    refine Zh8 rfl (by kernel_rfl) (fits_x) rfl qT ?_
    rintro _ _ ⟨rfl, rfl⟩
    refine Zg2 qA ?_
    refine Zhn 76 rfl (decide_eq_false (hfit)) ?_
    refine Zhg (Zb0 rfl) ?_
    refine Zhm 77 rfl (rfl) ?_
    refine Zg3 ?_
    refine Ct.o ?_
    refine Zge rfl ?_
    refine Ct.o ?_
    refine Zgb ?_
    first|refine Zhg (Zat rfl) ?_|refine Zhg (Zar rfl) ?_
    first|refine Zhg (Zmj (b := 2) rfl rfl) ?_|refine Zhg (Zbr rfl rfl) ?_
    refine Zhm 79 rfl (rfl) ?_
    first|refine Zhg (Zau rfl) ?_|refine Zhg (Zar rfl) ?_
    first|refine Zhi rfl ?_|refine Zhj rfl ?_|(refine Zhh rfl ?_; (first|refine Zhg (Zat rfl) ?_|refine Zhg (Zar rfl) ?_))
    first|refine Zhi rfl ?_|refine Zhj rfl ?_|(refine Zhh rfl ?_; (first|refine Zhg (Zmj (b := 2) rfl rfl) ?_|refine Zhg (Zbr rfl rfl) ?_))
    refine Zhm 82 rfl (rfl) ?_
    first|refine Zhg (Zdz rfl rfl) ?_|refine Zhg (Zd0 rfl rfl) ?_|refine Zhg (Za8 rfl rfl) ?_|refine Zhg (Za9 rfl rfl) ?_|refine Zhg (Za6 rfl rfl) ?_|refine Zhg (Za7 rfl rfl) ?_
    first|refine Zhg (Za0 rfl) ?_|refine Zhg (Zas rfl) ?_
    refine Zg3 ?_
    refine Ct.o ?_
    refine rx1 (Zha rfl (Zg7)) ?_
    exact ⟨_, ⟨rfl, rfl⟩, qI⟩
theorem fault_ok {W : World} {x : FaultV} (h : FaultVOk W x) : HostS.FOk (pF x) := ⟨h.back_.1, h.back_.2⟩
theorem faultsIn {W : World} {v : Value} {l : List FaultV} (h : InFaultV W v l) : FaultsIn [old W] v (l.map pF) := by
  refine ⟨?_, ?_, by rw [List.length_map]; exact h.len⟩
  · rw [List.length_map, List.flatMap_map]
    exact Rd.old .here h.sl
  · intro f hf
    obtain ⟨x, hx, rfl⟩ := List.mem_map.1 hf
    exact fault_ok (h.el x hx)
theorem stepsIn {W : World} {v : Value} {l : List StepV} (h : InStepV W v l) : StepsIn [old W] v l :=
  ⟨Rd.old .here h.sl, fun x hx => ⟨(h.el x hx).data_.bs .here, (h.el x hx).data_.len⟩, h.len⟩
theorem life_lfc (x : LifeV) : x.cells.toArray = lfc x.pages_ x.size_ x.faults_V x.script_V := rfl
theorem tampers_w (W : World) (x : LifeV) (ok : LifeVOk W x) : Con Try.prog 3 [.agg x.cells.toArray] [old W] (fun r M => r = .bool true ∧ [old W] = M) := by
  rw [life_lfc]; exact tampers_g (faultsIn ok.faults_) (stepsIn ok.script_)
end Go.Sl

/- append that keeps what stood there: in place, or beside it. -/
set_option linter.unusedVariables false
set_option linter.unusedSimpArgs false
namespace Go.Sl
open Go
theorem run_append2 {P : Program} {w w0 : World} {L : List Asrt} {ty T E : TypeId} {size by' n m T' cap : Nat} {a : Option Addr} {z xv : Value} {xs news : List Value} {E2 : Nat} [hs : TySlice P T E] [hi : TyI P E size by' z]
    (hd : P.underlying T' = some (.slice E2)) (hz : z.cells.size = size)
    (hn : (Builtin.lenOf xv).run P w = .ok m w) (hr : ∀ d, (Builtin.firstCells size m xv).run P { w with drawn := d } = .ok news.toArray { w with drawn := d })
    (hl : news.length = m * size) (h1 : news.all oneC = true) (hby : by' ≠ 0) (hb : (n + m) * by' ≤ 140737488355328) (hm0 : 0 < m)
    (H : St w0 w (own E size (.slice a n cap) n xs :: L)) :
    ∃ a' cap' w', (Builtin.append_ #[T, T'] ty #[.slice a n cap, xv]).run P w = .ok (.slice a' (n + m) cap') w' ∧
      ((a' = a ∧ cap' = cap ∧ St w0 w' (own E size (.slice a (n + m) cap) (n + m) (xs ++ news) :: L)) ∨ St w0 w' (own E size (.slice a' (n + m) cap') (n + m) (xs ++ news) :: own E size (.slice a n cap) n xs :: L)) := by
  have key : ∀ (hxl : xs.length = n * size) (ho : ∀ d, (Builtin.firstCells size n (.slice a n cap)).run P { w with drawn := d } = .ok xs.toArray { w with drawn := d }) (hgrow : cap < n + m),
      ∃ a' cap' w', (Builtin.append_ #[T, T'] ty #[.slice a n cap, xv]).run P w = .ok (.slice a' (n + m) cap') w' ∧ St w0 w' (own E size (.slice a' (n + m) cap') (n + m) (xs ++ news) :: own E size (.slice a n cap) n xs :: L) := by
    intro hxl ho hgrow
    obtain ⟨c', dr, hc1, hc2, hrun⟩ := run_append_grow (ty := ty) (T := T) (E := E) (z := z) hd hn hr ho hby hgrow hb
    refine ⟨_, _, _, hrun, ?_⟩
    have Hn := H.alloc (.cells (xs.toArray ++ news.toArray ++ Builtin.zeroCells z.cells (c' - (n + m))) E (0, 0))
    refine St.own_mk (cur := xs.toArray ++ news.toArray ++ Builtin.zeroCells z.cells (c' - (n + m))) ⟨Hn.os, Hn.tape, Hn.output, Hn.size, Hn.sat⟩ hc1 hc2 ?_ ?_
    · simp only [Array.size_append, size_zeroC, hz, List.size_toArray, hxl, hl]
      rw [← Nat.add_mul, ← Nat.add_mul]; congr 1; omega
    · simp only [Array.toList_append]
      rw [List.take_append_of_le_length (by simp [hxl, hl, Nat.add_mul]), List.take_of_length_le (by simp [hxl, hl, Nat.add_mul])]
  rcases H.own_get with ⟨hv, rfl, rfl, Hl⟩|⟨g, cap', cur, hv, h2, h3, h4, h5, h6, Hl⟩
  · simp only [Value.slice.injEq] at hv
    obtain ⟨rfl, _, rfl⟩ := hv
    obtain ⟨a', c', w', h, h'⟩ := key (by simp) (fun d => rfl) (by omega)
    exact ⟨a', c', w', h, .inr h'⟩
  · simp only [Value.slice.injEq] at hv
    obtain ⟨rfl, _, rfl⟩ := hv
    by_cases hroom : n + m ≤ cap
    · refine ⟨_, _, _, run_append_room (ty := ty) hd hn (hr w.drawn) hl h1 hroom Hl.cl_get h4, .inl ⟨rfl, rfl, ?_⟩⟩
      have Hn := Hl.set (.cells (wr cur (n * size) news) E (0, 0))
      have hfit : n * size + news.length ≤ cur.size := by rw [hl, h4, ← Nat.add_mul]; exact Nat.mul_le_mul_right _ hroom
      refine St.own_mk (cur := wr cur (n * size) news) Hn hroom h3 (by rw [wr_size, h4]) ?_
      rw [wr_toList _ _ _ hfit, h5, List.take_append_of_le_length (by simp [h6, hl, Nat.add_mul]), List.take_of_length_le (by simp [h6, hl, Nat.add_mul])]
    · obtain ⟨a', c', w', h, h'⟩ := key h6 (fun d => by
        have hg : ({ w with drawn := d } : World).heap[g]? = some (.cells cur E (0, 0)) := Hl.cl_get
        show (loadCells ⟨g, 0, none⟩ (n * size)).run P _ = _
        rw [run_loadCells hg 0 (n * size) (by rw [h4]; have := Nat.mul_le_mul_right size h2; omega)]
        congr 1
        apply Array.ext'
        rw [Array.toList_extract]
        simp [List.extract, h5]) (by omega)
      exact ⟨a', c', w', h, .inr h'⟩
theorem Znp {P : Program} {w0 : World} {ops : Array Oper} {dst : Option Nat} {ty T E : TypeId} {pos : String} {after : Array Edge} {rest : List Oper} {ρ : Env} {K : XK} {M M' : List Asrt} {x y : Operand} {size by' n m T' E' cap : Nat} {a : Option Addr} {z sv : Value} {xs news : List Value} [hs : TySlice P T E] [hi : TyI P E size by' z] [ht : TySlice P T' E']
    (hx : ev ρ x = .slice a n cap) (hy : ev ρ y = sv) (hm : Has M (own E size (.slice a n cap) n xs) M') (hsl : Rd M size sv m news)
    (h1 : news.all oneC = true) (hby : by' ≠ 0) (hb : (n + m) * by' ≤ 140737488355328) (hm0 : 0 < m)
    (k1 : xOps P w0 ops rest (put ρ dst (.slice a (n + m) cap)) (own E size (.slice a (n + m) cap) (n + m) (xs ++ news) :: M') K)
    (k2 : ∀ a' c', xOps P w0 ops rest (put ρ dst (.slice a' (n + m) c')) (own E size (.slice a' (n + m) c') (n + m) (xs ++ news) :: own E size (.slice a n cap) n xs :: M') K) :
    xOps P w0 ops (⟨dst, .call { callee := .builtin .append, args := #[x, y], argTypes := #[T, T'] }, ty, pos, after, none⟩ :: rest) ρ M K := by
  intro F w H
  have hsl := hsl _ _ _ H
  refine Zcy ?_
  obtain ⟨a', c', w', hr, H'⟩ := run_append2 (P := P) (T := T) (E := E) (ty := ty) (xv := sv) (m := m) (news := news) ht.h hi.zs hsl.lenOf (fun d => by
    have := (hsl.drawn d).first (P := P) m (Nat.le_refl _)
    rwa [← hsl.1, List.take_length] at this) hsl.1 h1 hby hb hm0 (H.pick (.there hm))
  have : (execOp (ev ρ) ⟨dst, .call { callee := .builtin .append, args := #[x, y], argTypes := #[T, T'] }, ty, pos, after, none⟩).run P w = .ok (.value (.slice a' (n + m) c')) w' := by
    refine op_run_value ?_
    simp only [List.map_toArray, List.map_cons, List.map_nil, hx, hy]
    exact hr
  rw [this]
  rcases H' with ⟨rfl, rfl, H'⟩|H'
  · exact k1 F w' H'.swap
  · refine k2 a' c' F w' ?_
    exact H'.pick (.there (.there .here))
theorem Znq {P : Program} {w0 : World} {ops : Array Oper} {dst : Option Nat} {ty T E : TypeId} {pos : String} {after : Array Edge} {rest : List Oper} {ρ : Env} {K : XK} {M M' : List Asrt} {x y : Operand} {size by' n m T' E' cap : Nat} {a : Option Addr} {z sv : Value} {xs news : List Value} [hs : TySlice P T E] [hi : TyI P E size by' z] [ht : TySlice P T' E']
    (hx : ev ρ x = .slice a n cap) (hy : ev ρ y = sv) (hm : Has M (own E size (.slice a n cap) n xs) M') (hsl : Rd M size sv m news)
    (h1 : news.all oneC = true) (hby : by' ≠ 0) (hb : (n + m) * by' ≤ 140737488355328) (hm0 : 0 < m)
    (k : ∀ (s : Bool) a' c', (s = true → a' = a ∧ c' = cap) → xOps P w0 ops rest (put ρ dst (.slice a' (n + m) c')) (own E size (.slice a' (n + m) c') (n + m) (xs ++ news) :: all (if s then [] else [own E size (.slice a n cap) n xs]) :: M') K) :
    xOps P w0 ops (⟨dst, .call { callee := .builtin .append, args := #[x, y], argTypes := #[T, T'] }, ty, pos, after, none⟩ :: rest) ρ M K := by
  refine Znp hx hy hm hsl h1 hby hb hm0 ?_ ?_
  · intro F w H
    exact k true a cap (fun _ => ⟨rfl, rfl⟩) F w (H.enx (Imp.cons (Imp.app (L := []))))
  · intro a' c' F w H
    exact k false a' c' (fun h => Bool.noConfusion h) F w (H.enx (Imp.cons (Imp.app (L := [own E size (.slice a n cap) n xs]))))
theorem own_take {E n m c : Nat} {a : Option Addr} {xs : List Value} {M : List Asrt} (h : m ≤ n) : Imp (own E 1 (.slice a n c) n xs :: M) (own E 1 (.slice a m c) m (xs.take m) :: M) :=
  Imp.head fun h' hg => by
    obtain ⟨hl, hg⟩ := hg
    refine ⟨by simp; omega, ?_⟩
    rcases hg with ⟨hv, rfl⟩|⟨g, cap, cur, hv, hg, h1, h2, h3, h4⟩
    · simp only [Value.slice.injEq] at hv
      obtain ⟨rfl, _, rfl⟩ := hv
      obtain rfl : m = 0 := by omega
      exact .inl ⟨rfl, rfl⟩
    · simp only [Value.slice.injEq] at hv
      obtain ⟨rfl, _, rfl⟩ := hv
      exact .inr ⟨g, c, cur, rfl, hg, by omega, h2, h3, by rw [← h4, Nat.mul_one, Nat.mul_one, List.take_take, Nat.min_eq_left h]⟩
theorem Znr {P : Program} {ρ : Env} {x y : Operand} {S i : Nat} {k : IntKind} {s : ByteArray} {b : Byte} (hS : P.underlying S = some .string) (hx : ev ρ x = .string s) (hy : ev ρ y = .int k (i : Int)) (hb : s[i]? = some (UInt8.ofBitVec b)) : PV P (.index S x y) ρ (u8b b) := by
  intro oo w ho; unfold execOp; rw [ho]; refine op_run_value ?_; rw [hx, hy]
  unfold Instr.index
  simp only [asIntOf, pure_bind]
  rw [run_bind P _ _ w w _ (run_under hS)]
  simp only []
  rw [if_pos (by omega), Int.toNat_natCast, hb]
  rfl
theorem str_at {s : ByteArray} {b : List Byte} (hb : s.data.toList = b.map (fun x => UInt8.ofBitVec x)) {i : Nat} (hi : i < b.length) : s[i]? = some (UInt8.ofBitVec b[i]) := by
  have hsz : s.size = b.length := by show s.data.size = _; rw [← Array.length_toList, hb, List.length_map]
  rw [getElem?_pos s i (by omega)]
  congr 1
  show s.data[i]'(by show i < s.size; omega) = _
  rw [← Array.getElem_toList]
  simp only [hb, List.getElem_map]
end Go.Sl

/- the statements' small helpers: slices that do not share (Apart). -/
set_option maxHeartbeats 4000000
set_option maxRecDepth 10000
set_option linter.unusedVariables false
set_option linter.unusedSimpArgs false
namespace Go.Sl
open Go Go.Proofs
attribute [local irreducible] cl pt own old pur ex all den denOps denS xOps xC cX CX xthen xblk xcut xloop xgo xng retX resX Calls PV Rd Con
abbrev ni (n : Nat) : Value := .int .i64 (n : Int)
def mkB (i j : Nat) : Byte := BitVec.ofInt 8 ((i * 31 + j * 7 + 1 : Nat) : Int)
theorem mark_x (i j : Nat) (hi : i ≤ 1048576) (hj : j ≤ 281474976710656) : Con Try.prog 35 [ni i, ni j] [] (fun r M => r = u8b (mkB i j) ∧ M = []) := by
  refine fn_x Try.func35 rfl rfl rfl Try.mixed (by kernel_rfl) ?_
  intro w0
  refine Ct.o ?_
  refine Zgb ?_
  first|refine Zhg (Zaz rfl) ?_|refine Zhg (Zas rfl) ?_
  refine Zg3 ?_
  refine Ct.o ?_
  refine Zgb ?_
  first|refine Zhg (Zat rfl) ?_|refine Zhg (Zar rfl) ?_
  first|refine Zhg (Zmc (b := 31) rfl rfl) ?_|refine Zhg (Zbi rfl rfl) ?_
  first|refine Zhg (Zat rfl) ?_|refine Zhg (Zar rfl) ?_
  first|refine Zhg (Zmc (b := 7) rfl rfl) ?_|refine Zhg (Zbi rfl rfl) ?_
  first|refine Zhg (Zma rfl rfl) ?_|refine Zhg (Zbg rfl rfl) ?_
  first|refine Zhg (Zma (b := 1) rfl rfl) ?_|refine Zhg (Zbg rfl rfl) ?_
  refine Zhg (Zjs rfl) ?_
  first|refine Zhg (Zaz rfl) ?_|refine Zhg (Zas rfl) ?_
  refine Zg3 ?_
  refine Ct.o ?_
  refine rx1 (Zg9 rfl (Zg7)) ?_
  exact ⟨_, ⟨rfl, rfl⟩, by exact Imp.arr (by repeat (first|exact Arr.nil|exact Arr.stop|refine Arr.cons (by repeat constructor) ?_|refine Arr.skip ?_))⟩
abbrev Part := Option Addr × Nat × List Byte
def vP (p : Part) : Value := .slice p.1 p.2.2.length p.2.1
def ownP (p : Part) : Asrt := own 5 1 (vP p) p.2.2.length (p.2.2.map u8b)
def MkUp (i : Nat) (l : List Byte) (n : Nat) : Prop := ∀ j, j < n → l[j]? = some (mkB i j)
theorem MkUp.set {i j : Nat} {l : List Byte} (h : MkUp i l j) (hj : j < l.length) : MkUp i (l.set j (mkB i j)) (j + 1) := by
  intro k hk
  by_cases e : j = k
  · subst e; rw [List.getElem?_set_self hj]
  · rw [List.getElem?_set_ne e]; exact h k (by omega)
theorem MkUp.snoc {i : Nat} {l : List Byte} (h : MkUp i l l.length) : MkUp i (l ++ [mkB i l.length]) (l.length + 1) := by
  intro k hk
  by_cases e : k = l.length
  · subst e; rw [List.getElem?_append_right (Nat.le_refl _), Nat.sub_self]; rfl
  · rw [List.getElem?_append_left (by omega)]; exact h k (by omega)
theorem MkUp.at {i j n : Nat} {l : List Byte} (h : MkUp i l n) (hj : j < n) (hl : j < l.length) : l[j] = mkB i j := by
  have := h j hj
  rw [List.getElem?_eq_getElem hl] at this
  exact Option.some.inj this
def remP (s : Bool) (p : Part) : Asrt := all (if s then [] else [ownP p])
abbrev Trip := Part × Part × Bool
def A2 (t : Trip) : Asrt := all [ownP t.2.1, remP t.2.2 t.1]
/-- What a part and its longer heir are to each other. -/
def Heir (i k : Nat) (p q : Part) (s : Bool) : Prop := MkUp i p.2.2 p.2.2.length ∧ MkUp i q.2.2 q.2.2.length ∧ q.2.2.length = p.2.2.length + k ∧ (s = true → q.1 = p.1 ∧ q.2.1 = p.2.1 ∧ q.2.2.take p.2.2.length = p.2.2)
theorem ownP_bs {M M' : List Asrt} {p : Part} (hm : Has M (ownP p) M') : Bs M (vP p) p.2.2 := Bs.own (E := 5) hm
theorem A2_q {t : Trip} {M : List Asrt} : Bs (A2 t :: M) (vP t.2.1) t.2.1.2.2 :=
  (ownP_bs (p := t.2.1) (M := ownP t.2.1 :: remP t.2.2 t.1 :: M) .here).imp (Imp.unapp (L := [ownP t.2.1, remP t.2.2 t.1]))
theorem A2_p {i k : Nat} {t : Trip} {M : List Asrt} (h : Heir i k t.1 t.2.1 t.2.2) : Bs (A2 t :: M) (vP t.1) t.1.2.2 := by
  obtain ⟨p, q, s⟩ := t
  have h0 : Imp (A2 (p, q, s) :: M) (ownP q :: remP s p :: M) := Imp.unapp (L := [ownP q, remP s p])
  cases s with
  | false =>
    have h1 : Imp (A2 (p, q, false) :: M) (ownP q :: ownP p :: M) := h0.trans (Imp.cons (Imp.unapp (L := [ownP p])))
    exact (ownP_bs (.there .here)).imp h1
  | true =>
    obtain ⟨_, _, hl, h3⟩ := h
    obtain ⟨ha, hc, ht⟩ := h3 rfl
    dsimp only at ha hc ht hl
    have h1 : Imp (A2 (p, q, true) :: M) (ownP p :: remP true p :: M) := by
      refine h0.trans ?_
      have := own_take (E := 5) (n := q.2.2.length) (m := p.2.2.length) (c := q.2.1) (a := q.1) (xs := q.2.2.map u8b) (M := remP true p :: M) (by omega)
      rw [← List.map_take, ht, ha, hc] at this
      have e : ownP q = own 5 1 (.slice p.1 q.2.2.length p.2.1) q.2.2.length (q.2.2.map u8b) := by unfold ownP vP; rw [ha, hc]
      rw [e]
      exact this
    exact (ownP_bs .here).imp h1
theorem star_bs {α : Type} {A : α → Asrt} {l : List α} {x : α} {v : Value} {b : List Byte} (hx : x ∈ l) (h : ∀ R, Bs (A x :: R) v b) {M M' : List Asrt} (hm : Has M (star A l) M') : Bs M v b := by
  obtain ⟨R, hR⟩ := star_has (A := A) hx hm
  exact (h R).imp hR
end Go.Sl

/- slices of numbers that come in; a slice with its room, opened as cells. -/
set_option linter.unusedVariables false
set_option linter.unusedSimpArgs false
namespace Go.Sl
open Go Go.ChangeShapes Go.WideShapes Go.ChangeAt Go.RowKit
section
variable {H : Type} {enc : TypeId × Value → H} {P : Program} {w : World} {base : Nat} {spare : Nat → Bool} {held : Bool}
/-- A slice of uint64 that comes in. -/
structure InU (W : World) (v : Value) (l : List (BitVec 64)) : Prop where
  sl : SlW W 1 v l.length (l.map u64b)
  sh : ∃ a c, v = .slice a l.length c ∧ l.length ≤ c ∧ c ≤ 9223372036854775807
  len : l.length * 8 ≤ 140737488351232
theorem open_us {t e fuel : Nat} {cs : List Value} {x : DataW H × List MemPlace} (ht : P.underlying t = some (.slice e)) (he : P.underlying e = some (.int .u64)) (hc : P.cellsOf e = 1) (hby : P.bytesOf e = 8) (h : DataW.trod enc P w base spare held fuel t cs = some x) (hs : Small P t x.1) :
    ∃ (v : Value) (l : List (BitVec 64)), cs = [v] ∧ InU w v l := by
  obtain ⟨v, l, h1, h2, h3, h4⟩ := open_sls (encd := fun x : BitVec 64 => [u64b x]) (good := fun _ => True) ht hc (by decide) hby (fun _ => rfl) (fun n cs y hy hsm => by
    obtain ⟨k, hk, _, hw⟩ := DataW.trod_int he hy
    obtain ⟨b, hb⟩ := u64_of hw
    exact ⟨b, by rw [hk, hb], trivial⟩) h hs
  obtain ⟨a, len, cap, h5, h6, h7⟩ := slice_shape ht h
  rw [h1] at h5
  simp only [List.cons.injEq, and_true] at h5
  rw [flat_one] at h2
  obtain ⟨a', k', hv⟩ := h2.len
  rw [h5] at hv
  simp only [Value.slice.injEq] at hv
  obtain ⟨rfl, rfl, rfl⟩ := hv
  exact ⟨v, l, h1, ⟨h2, ⟨a, cap, h5, h6, h7⟩, h4⟩⟩
end
theorem Znz {P : Program} {w0 : World} {c : Code} {ρ : Env} {Q : XQ} {E sz n cp : Nat} {a : Option Addr} {xs : List Value} {M M' : List Asrt} (hm : Has M (Sl.own E sz (.slice a n cp) n xs) M') (hn : 0 < n)
    (k : ∀ g rest, a = some ⟨g, 0, none⟩ → n ≤ cp → cp ≤ 9223372036854775807 → rest.length + n * sz = cp * sz → xC P w0 c ρ (Sl.cl g (xs ++ rest).toArray E :: M') Q) : xC P w0 c ρ M Q := by
  refine Zgu (α := { p : Nat × List Value // a = some ⟨p.1, 0, none⟩ ∧ n ≤ cp ∧ cp ≤ 9223372036854775807 ∧ p.2.length + n * sz = cp * sz }) (A := fun p => Sl.cl p.val.1 (xs ++ p.val.2).toArray E :: M') ?_ (fun p => k p.val.1 p.val.2 p.property.1 p.property.2.1 p.property.2.2.1 p.property.2.2.2)
  intro F w H
  rcases (H.pick (.there hm)).own_get with ⟨hv, rfl, _⟩|⟨g, cap, cur, hv, h2, h3, h4, h5, h6, H'⟩
  · omega
  · simp only [Value.slice.injEq] at hv
    obtain ⟨rfl, _, rfl⟩ := hv
    have e : cur = (xs ++ cur.toList.drop (n * sz)).toArray := by rw [← h5, List.take_append_drop]
    have hle : n * sz ≤ cp * sz := Nat.mul_le_mul_right _ h2
    refine ⟨⟨(g, cur.toList.drop (n * sz)), rfl, h2, h3, by rw [List.length_drop, Array.length_toList, h4]; omega⟩, ?_⟩
    dsimp only
    rw [← e]
    exact H'.swap
/-- Cells written in the midst. -/
theorem wr_mid (A B C V : List Value) (o : Nat) (ho : o = A.length) (hv : V.length = B.length) : wr (A ++ (B ++ C)).toArray o V = (A ++ (V ++ C)).toArray := by
  subst ho
  apply Array.ext'
  rw [wr_toList _ _ _ (by simp [hv])]
  simp [hv]
theorem own_someN {E sz n c : Nat} {a : Option Addr} {xs : List Value} {w0 w : World} {F : Asrt} {M M' : List Asrt} (hm : Has M (Sl.own E sz (.slice a n c) n xs) M') (hn : 0 < n) (H : St w0 w (F :: M)) : ∃ g, a = some ⟨g, 0, none⟩ := by
  rcases (H.pick (.there hm)).own_get with ⟨hv, rfl, _⟩|⟨g, cap, cur, hv, _⟩
  · omega
  · simp only [Value.slice.injEq] at hv
    exact ⟨g, hv.1⟩
/-- Some cells of a slice with its room are written. -/
theorem Zn0 {P : Program} {w0 : World} {ops : Array Oper} {dst : Option Nat} {ty T : TypeId} {pos : String} {after : Array Edge} {rest : List Oper} {ρ : Env} {K : XK} {M M2 : List Asrt} {x y : Operand} {by' m g o sz n c E : Nat} {z : Value} {vs : Array Value} {xs ys : List Value} [hi : TyI P T m by' z]
    (hx : ev ρ x = .pointer (some ⟨g, o, none⟩)) (hy : ev ρ y = .agg vs) (hvs : vs.size = m) (h1 : vs.toList.all oneC = true) (hm : Repl M (Sl.own E sz (.slice (some ⟨g, 0, none⟩) n c) n xs) (Sl.own E sz (.slice (some ⟨g, 0, none⟩) n c) n ys) M2) (ho : o + m ≤ n * sz) (hys : (wr xs.toArray o vs.toList).toList = ys)
    (k : xOps P w0 ops rest (put ρ dst undef) M2 K) : xOps P w0 ops (⟨dst, .store T x y, ty, pos, after, none⟩ :: rest) ρ M K := by
  intro F w H
  obtain ⟨R, hh1, hh2⟩ := hm.has
  have H1 := H.pick (.there hh1)
  rcases H1.own_get with ⟨hv, _⟩|⟨g', cap, cur, hv, h2, h3, h4, h5, h6, H3⟩
  · cases hv
  · simp only [Value.slice.injEq, Option.some.injEq, Addr.mk.injEq] at hv
    obtain ⟨⟨rfl, _, _⟩, _, rfl⟩ := hv
    have hle : n * sz ≤ c * sz := Nat.mul_le_mul_right _ h2
    have hxl : xs.length = n * sz := by rw [← h5, List.length_take, Array.length_toList, h4]; omega
    have hvl : vs.toList.length = m := by rw [Array.length_toList, hvs]
    refine Zdg H3 hx hy hvs h1 Repl.here (by omega) ?_
    intro w' H'
    have H4 := H'.own_mk (size := sz) (n := n) (cap := c) (xs := ys) h2 h3 (by rw [wr_size]; exact h4) (by
      obtain ⟨tl, e⟩ : ∃ tl, cur.toList = xs ++ tl := ⟨cur.toList.drop (n * sz), by rw [← h5, List.take_append_drop]⟩
      have e1 : (xs ++ tl).take o = xs.take o := List.take_append_of_le_length (by omega)
      have e2 : (xs ++ tl).drop (o + m) = xs.drop (o + m) ++ tl := List.drop_append_of_le_length (by omega)
      rw [← hys, wr_toList _ _ _ (by rw [hvl]; omega), wr_toList _ _ _ (by rw [hvl, List.size_toArray, hxl]; exact ho), e, hvl, e1, e2, ← List.append_assoc]
      have e3 : (xs.take o ++ vs.toList ++ xs.drop (o + m)).length = n * sz := by simp [hvs, hxl]; omega
      rw [List.take_append_of_le_length (by rw [e3]; exact Nat.le_refl _), List.take_of_length_le (by rw [e3]; exact Nat.le_refl _)])
    exact k F w' (H4.unpick (.there hh2))
end Go.Sl

/- the document's host (trystref11): There, befalls, begin, end, Lay, walked. -/
set_option maxHeartbeats 4000000
set_option maxRecDepth 10000
set_option linter.unusedVariables false
set_option linter.unusedSimpArgs false
namespace Go.Sl
open Go Go.Proofs
attribute [local irreducible] cl pt own old pur ex all den denOps denS xOps xC cX CX xthen xblk xcut xloop xgo xng retX resX Calls PV Rd Con
attribute [local irreducible] hostA
abbrev rcl (pages : Int) (size : Nat) (fa : Option Addr) (nf fc : Nat) (wa : Option Addr) (nw wc : Nat) (reg : BitVec 64) (ops : Nat) (la : Option Addr) (nl lc : Nat) (down : Bool) : Array Value :=
  #[.int .i64 pages, nvv size, .slice fa nf fc, .slice wa nw wc, u64b reg, nvv ops, .slice la nl lc, .bool down]
abbrev Wr := Int × Part
def wcell (e : Wr) : List Value := [.int .i64 e.1, vP e.2]
theorem wcell_len (e : Wr) : (wcell e).length = 2 := rfl
/-- What was written to a page, the first first. -/
def rowsW (wl : List Wr) (page : Int) : List (List Byte) := (wl.filter fun e => e.1 == page).map (·.2.2.2)
theorem rowsW_app (a b : List Wr) (page : Int) : rowsW (a ++ b) page = rowsW a page ++ rowsW b page := by unfold rowsW; rw [List.filter_append, List.map_append]
theorem rowsW_at (wl : List Wr) (i : Nat) (hi : i < wl.length) (page : Int) : rowsW wl page = rowsW (wl.take i) page ++ ((if wl[i].1 = page then [wl[i].2.2.2] else []) ++ rowsW (wl.drop (i + 1)) page) := by
  have e : wl = wl.take i ++ ([wl[i]] ++ wl.drop (i + 1)) := by
    rw [List.singleton_append, ← List.drop_eq_getElem_cons hi, List.take_append_drop]
  conv => lhs; rw [e]
  rw [rowsW_app, rowsW_app]
  congr 2
  unfold rowsW
  by_cases h : wl[i].1 = page <;> simp [h]
theorem rowsW_drop (wl : List Wr) (i : Nat) (hi : i < wl.length) (page : Int) : rowsW (wl.drop i) page = (if wl[i].1 = page then [wl[i].2.2.2] else []) ++ rowsW (wl.drop (i + 1)) page := by
  rw [List.drop_eq_getElem_cons hi]
  show rowsW ([wl[i]] ++ wl.drop (i + 1)) page = _
  rw [rowsW_app]
  congr 1
  unfold rowsW
  by_cases h : wl[i].1 = page <;> simp [h]
section
variable {q pc : Nat} {pages : Int} {size fc wc ops lc : Nat} {fa wa la : Option Addr} {reg : BitVec 64} {down : Bool} {fl : List HostS.Fault} {wl : List Wr} {log : List HostS.Touch} {nf nw nl : Nat}
theorem rThere_x (page : Int) : Con Try.prog 52 [hp q, .int .i64 page] [cl q (rcl pages size fa nf fc wa nw wc reg ops la nl lc down) 93] (fun r M => r = .bool (decide (0 ≤ page ∧ page < pages)) ∧ M = [cl q (rcl pages size fa nf fc wa nw wc reg ops la nl lc down) 93]) := by
  by_cases h0 : 0 ≤ page
  · by_cases h1 : page < pages
    · rw [decide_eq_true ⟨h0, h1⟩]
      refine fn_x Try.func52 rfl rfl rfl Try.mixed (by kernel_rfl) ?_
      intro w0
      refine Ct.o ?_
      refine Zgb ?_
      first|refine Zhg (Za0 rfl) ?_|refine Zhg (Zas rfl) ?_
      refine Zg3 ?_
      refine Ct.o ?_
      refine Zgb ?_
      first|refine Zhg (Zat rfl) ?_|refine Zhg (Zar rfl) ?_
      refine Zhg (Zbq (b := 0) rfl rfl) ?_
      refine Zhm 6 rfl (decide_eq_true (h0)) ?_
      first|refine Zhg (Zau rfl) ?_|refine Zhg (Zar rfl) ?_
      first|refine Zhi rfl ?_|refine Zhj rfl ?_|(refine Zhh rfl ?_; (first|refine Zhg (Zat rfl) ?_|refine Zhg (Zar rfl) ?_))
      first|refine Zhi rfl ?_|refine Zhj rfl ?_|(refine Zhh rfl ?_; (first|refine Zhg (Zav rfl) ?_|refine Zhg (Zar rfl) ?_))
      first|refine Zhi rfl ?_|refine Zhj rfl ?_|(refine Zhh rfl ?_; (refine Zhg (Zba rfl) ?_))
      first|refine Zhi rfl ?_|refine Zhj rfl ?_|(refine Zhh rfl ?_; (first|refine Zhg (Zl8 rfl) ?_|refine Zhg (Zce rfl) ?_))
      first|refine Zhi rfl ?_|refine Zhj rfl ?_|(refine Zhh rfl ?_; (refine Zhp rfl qH rfl ?_))
      first|refine Zhi rfl ?_|refine Zhj rfl ?_|(refine Zhh rfl ?_; (refine Zhg (Zbn rfl rfl) ?_))
      refine Zhm 13 rfl (decide_eq_true (h1)) ?_
      first|refine Zhg (Zdz rfl rfl) ?_|refine Zhg (Zd0 rfl rfl) ?_|refine Zhg (Za8 rfl rfl) ?_|refine Zhg (Za9 rfl rfl) ?_|refine Zhg (Za6 rfl rfl) ?_|refine Zhg (Za7 rfl rfl) ?_
      first|refine Zhg (Za0 rfl) ?_|refine Zhg (Zas rfl) ?_
      refine Zg3 ?_
      refine Ct.o ?_
      refine rx1 (Zha rfl (Zg7)) ?_
      exact ⟨_, ⟨rfl, rfl⟩, qI⟩
    · rw [decide_eq_false (fun h => h1 h.2)]
      refine fn_x Try.func52 rfl rfl rfl Try.mixed (by kernel_rfl) ?_
      intro w0
      refine Ct.o ?_
      refine Zgb ?_
      first|refine Zhg (Za0 rfl) ?_|refine Zhg (Zas rfl) ?_
      refine Zg3 ?_
      refine Ct.o ?_
      refine Zgb ?_
      first|refine Zhg (Zat rfl) ?_|refine Zhg (Zar rfl) ?_
      refine Zhg (Zbq (b := 0) rfl rfl) ?_
      refine Zhm 6 rfl (decide_eq_true (h0)) ?_
      first|refine Zhg (Zau rfl) ?_|refine Zhg (Zar rfl) ?_
      first|refine Zhi rfl ?_|refine Zhj rfl ?_|(refine Zhh rfl ?_; (first|refine Zhg (Zat rfl) ?_|refine Zhg (Zar rfl) ?_))
      first|refine Zhi rfl ?_|refine Zhj rfl ?_|(refine Zhh rfl ?_; (first|refine Zhg (Zav rfl) ?_|refine Zhg (Zar rfl) ?_))
      first|refine Zhi rfl ?_|refine Zhj rfl ?_|(refine Zhh rfl ?_; (refine Zhg (Zba rfl) ?_))
      first|refine Zhi rfl ?_|refine Zhj rfl ?_|(refine Zhh rfl ?_; (first|refine Zhg (Zl8 rfl) ?_|refine Zhg (Zce rfl) ?_))
      first|refine Zhi rfl ?_|refine Zhj rfl ?_|(refine Zhh rfl ?_; (refine Zhp rfl qH rfl ?_))
      first|refine Zhi rfl ?_|refine Zhj rfl ?_|(refine Zhh rfl ?_; (refine Zhg (Zbn rfl rfl) ?_))
      refine Zhn 13 rfl (decide_eq_false (h1)) ?_
      first|refine Zhg (Zdz rfl rfl) ?_|refine Zhg (Zd0 rfl rfl) ?_|refine Zhg (Za8 rfl rfl) ?_|refine Zhg (Za9 rfl rfl) ?_|refine Zhg (Za6 rfl rfl) ?_|refine Zhg (Za7 rfl rfl) ?_
      first|refine Zhg (Za0 rfl) ?_|refine Zhg (Zas rfl) ?_
      refine Zg3 ?_
      refine Ct.o ?_
      refine rx1 (Zha rfl (Zg7)) ?_
      exact ⟨_, ⟨rfl, rfl⟩, qI⟩
  · rw [decide_eq_false (fun h => h0 h.1)]
    refine fn_x Try.func52 rfl rfl rfl Try.mixed (by kernel_rfl) ?_
    intro w0
    refine Ct.o ?_
    refine Zgb ?_
    first|refine Zhg (Za0 rfl) ?_|refine Zhg (Zas rfl) ?_
    refine Zg3 ?_
    refine Ct.o ?_
    refine Zgb ?_
    first|refine Zhg (Zat rfl) ?_|refine Zhg (Zar rfl) ?_
    refine Zhg (Zbq (b := 0) rfl rfl) ?_
    refine Zhn 6 rfl (decide_eq_false (h0)) ?_
    first|refine Zhg (Zau rfl) ?_|refine Zhg (Zar rfl) ?_
    first|refine Zhi rfl ?_|refine Zhj rfl ?_|(refine Zhh rfl ?_; (first|refine Zhg (Zat rfl) ?_|refine Zhg (Zar rfl) ?_))
    first|refine Zhi rfl ?_|refine Zhj rfl ?_|(refine Zhh rfl ?_; (first|refine Zhg (Zav rfl) ?_|refine Zhg (Zar rfl) ?_))
    first|refine Zhi rfl ?_|refine Zhj rfl ?_|(refine Zhh rfl ?_; (refine Zhg (Zba rfl) ?_))
    first|refine Zhi rfl ?_|refine Zhj rfl ?_|(refine Zhh rfl ?_; (first|refine Zhg (Zl8 rfl) ?_|refine Zhg (Zce rfl) ?_))
    first|refine Zhi rfl ?_|refine Zhj rfl ?_|(refine Zhh rfl ?_; (refine Zhp rfl qH rfl ?_))
    first|refine Zhi rfl ?_|refine Zhj rfl ?_|(refine Zhh rfl ?_; (first|refine Zhg (Zmf rfl rfl) ?_|refine Zhg (Zbn rfl rfl) ?_))
    first|refine Zhg (Zdz rfl rfl) ?_|refine Zhg (Zd0 rfl rfl) ?_|refine Zhg (Za8 rfl rfl) ?_|refine Zhg (Za9 rfl rfl) ?_|refine Zhg (Za6 rfl rfl) ?_|refine Zhg (Za7 rfl rfl) ?_
    first|refine Zhg (Za0 rfl) ?_|refine Zhg (Zas rfl) ?_
    refine Zg3 ?_
    refine Ct.o ?_
    refine rx1 (Zha rfl (Zg7)) ?_
    exact ⟨_, ⟨rfl, rfl⟩, qI⟩
def befF (ops : Nat) (kind : Int) (f : HostS.Fault) : Bool := decide (f.at_ = ops) && decide (f.kind = kind)
theorem rBefalls_x (kind : Int) (hfl : fl.length ≤ 9223372036854775807) : Con Try.prog 57 [hp q, .int .i64 kind] [cl q (rcl pages size fa fl.length fc wa wl.length wc reg ops la log.length lc down) 93, own 28 6 (.slice fa fl.length fc) fl.length (fl.flatMap fcells)] (fun r M => r = .bool (fl.any (befF ops kind)) ∧ M = [cl q (rcl pages size fa fl.length fc wa wl.length wc reg ops la log.length lc down) 93, own 28 6 (.slice fa fl.length fc) fl.length (fl.flatMap fcells)]) := by
  refine fn_x Try.func57 rfl rfl rfl Try.mixed (by kernel_rfl) ?_
  intro w0
  refine Ct.o ?_
  refine Zgb ?_
  first|refine Zhg (Za0 rfl) ?_|refine Zhg (Zas rfl) ?_
  refine Zg3 ?_
  refine Ct.o ?_
  refine Zgb ?_
  first|refine Zhg (Zaz rfl) ?_|refine Zhg (Zas rfl) ?_
  refine Zg3 ?_
  refine Ct.o ?_
  refine Zgo [(4, 39)] (by kernel_rfl) (fun i : Nat => i ≤ fl.length ∧ (fl.take i).any (befF ops kind) = false) (fun _ => [cl q (rcl pages size fa fl.length fc wa wl.length wc reg ops la log.length lc down) 93, own 28 6 (.slice fa fl.length fc) fl.length (fl.flatMap fcells)]) (fun i => [(5, nvv i)]) (fun i => fl.length - i) 0 ⟨Nat.zero_le _, rfl⟩ qI ⟨rfl, trivial⟩ ?_
  rintro i u ⟨hi, he⟩
  refine Ct.o ?_
  refine Zgb ?_
  first|refine Zhg (Zat rfl) ?_|refine Zhg (Zar rfl) ?_
  first|refine Zhg (Zav rfl) ?_|refine Zhg (Zar rfl) ?_
  refine Zhg (Zba rfl) ?_
  first|refine Zhg (Zl8 rfl) ?_|refine Zhg (Zce rfl) ?_
  refine Zhp rfl qH rfl ?_
  first|refine Zhg (Zcr rfl) ?_|refine Zhg (Zct) ?_|refine Zhg (Zcu rfl) ?_
  first|refine Zhg (Zmf rfl rfl) ?_|refine Zhg (Zbn rfl rfl) ?_
  refine Zg3 ?_
  refine Ct.o ?_
  refine Zgg rfl (fun hB => ?_) (fun hB => ?_)
  · refine Zgt (fun F w H => own_someN (n := fl.length) (a := fa) qH (by omega) H) ?_
    rintro ⟨g, rfl⟩
    have e1 : (fl.take (i + 1)).any (befF ops kind) = ((fl.take i).any (befF ops kind) || befF ops kind fl[i]) := by rw [List.take_succ_eq_append_getElem hB, List.any_append]; simp
    have hrd : ∀ {M M' : List Asrt}, Has M (own 28 6 (.slice (some ⟨g, 0, none⟩) fl.length fc) fl.length (fl.flatMap fcells)) M' → Rd M 6 (.slice (some ⟨g, 0, none⟩) fl.length fc) fl.length (fl.flatMap fcells) := fun h => Rd.own h
    by_cases hop : fl[i].at_ = ops
    · by_cases hk : fl[i].kind = kind
      · refine Ct.o ?_
        refine Zij ([cl q (rcl pages size (some ⟨g, 0, none⟩) fl.length fc wa wl.length wc reg ops la log.length lc down) 93, own 28 6 (.slice (some ⟨g, 0, none⟩) fl.length fc) fl.length (fl.flatMap fcells)]) [11] (.q 0 (.q 1 (.q 2 (.q 4 (.q 8 (.q 9 (.q 10 (.r 3 (.q 5 (.q 6 (.r 7 (.r 11 (.q 12 (.q 13 (.q 14 (.q 15 (.q 16 (.q 18 (.q 22 (.r 17 (.q 19 (.q 20 (.r 21 (.q 23 (.q 24 .nil))))))))))))))))))))))))) (by kernel_rfl) (by kernel_rfl) (Imp.arr qV) ?_
        first|refine Zim rfl (Zav rfl) ?_|refine Zim rfl (Zar rfl) ?_
        refine Zim rfl (Zba rfl) ?_
        first|refine Zim rfl (Zl8 rfl) ?_|refine Zim rfl (Zce rfl) ?_
        first|refine Zim rfl (Zat rfl) ?_|refine Zim rfl (Zar rfl) ?_
        first|refine Zim rfl (Zav rfl) ?_|refine Zim rfl (Zar rfl) ?_
        refine Zim rfl (Zba rfl) ?_
        first|refine Zim rfl (Zl8 rfl) ?_|refine Zim rfl (Zce rfl) ?_
        refine Ziv rfl rfl qH rfl ?_
        first|refine Zim rfl (Zl6 rfl rfl) ?_|refine Zim rfl (Zcg rfl rfl) ?_
        first|refine Zim rfl (Zl8 rfl) ?_|refine Zim rfl (Zce rfl) ?_
        refine Zfh rfl rfl (((hrd qH).atN0 (j := 0) fcells_len hB (by omega) rfl)) ?_
        refine Ziv rfl rfl qH rfl ?_
        refine Zim rfl (Zbr (b := (ops : Int)) rfl rfl) ?_
        refine Zi5 27 rfl (decide_eq_true (hop)) ?_
        first|refine Zim rfl (Zau rfl) ?_|refine Zim rfl (Zar rfl) ?_
        first|refine Zio rfl rfl ?_|refine Zip rfl rfl ?_|refine Zin rfl rfl (Zav rfl) ?_|refine Zin rfl rfl (Zar rfl) ?_
        first|refine Zio rfl rfl ?_|refine Zip rfl rfl ?_|refine Zin rfl rfl (Zba rfl) ?_
        first|refine Zio rfl rfl ?_|refine Zip rfl rfl ?_|refine Zin rfl rfl (Zl8 rfl) ?_|refine Zin rfl rfl (Zce rfl) ?_
        first|refine Zio rfl rfl ?_|refine Zip rfl rfl ?_|refine Zin rfl rfl (Zat rfl) ?_|refine Zin rfl rfl (Zar rfl) ?_
        first|refine Zio rfl rfl ?_|refine Zip rfl rfl ?_|refine Zin rfl rfl (Zat rfl) ?_|refine Zin rfl rfl (Zar rfl) ?_
        first|refine Zi1 rfl rfl ?_|refine Zi2 rfl rfl ?_|refine Ziw rfl rfl rfl qH rfl ?_
        first|refine Zio rfl rfl ?_|refine Zip rfl rfl ?_|refine Zin rfl rfl (Zl6 rfl rfl) ?_|refine Zin rfl rfl (Zcg rfl rfl) ?_
        first|refine Zio rfl rfl ?_|refine Zip rfl rfl ?_|refine Zin rfl rfl (Zl8 rfl) ?_|refine Zin rfl rfl (Zce rfl) ?_
        first|refine Zi1 rfl rfl ?_|refine Zi2 rfl rfl ?_|refine Zfi rfl rfl rfl (((hrd qH).atN0 (j := 1) fcells_len hB (by omega) rfl)) ?_
        first|refine Zio rfl rfl ?_|refine Zip rfl rfl ?_|refine Zin rfl rfl (Zbr (b := kind) rfl rfl) ?_
        refine Zi5 38 rfl (decide_eq_true (hk)) ?_
        first|refine Zim rfl (Zdz rfl rfl) ?_|refine Zim rfl (Zd0 rfl rfl) ?_|refine Zim rfl (Za8 rfl rfl) ?_|refine Zim rfl (Za9 rfl rfl) ?_|refine Zim rfl (Za6 rfl rfl) ?_|refine Zim rfl (Za7 rfl rfl) ?_
        refine Zik ?_
        refine Ct.o ?_
        refine Zge rfl ?_
        refine Ct.o ?_
        refine Zgb ?_
        first|refine Zhg (Za0 rfl) ?_|refine Zhg (Zas rfl) ?_
        refine Zg3 ?_
        refine Ct.o ?_
        refine rx1 (Zha rfl (Zg7)) ?_
        exact ⟨_, ⟨by rw [List.any_eq_true.2 ⟨_, List.getElem_mem hB, by unfold befF; rw [decide_eq_true hop, decide_eq_true hk]; rfl⟩], rfl⟩, qI⟩
      · refine Ct.o ?_
        refine Zij ([cl q (rcl pages size (some ⟨g, 0, none⟩) fl.length fc wa wl.length wc reg ops la log.length lc down) 93, own 28 6 (.slice (some ⟨g, 0, none⟩) fl.length fc) fl.length (fl.flatMap fcells)]) [11] (.q 0 (.q 1 (.q 2 (.q 4 (.q 8 (.q 9 (.q 10 (.r 3 (.q 5 (.q 6 (.r 7 (.r 11 (.q 12 (.q 13 (.q 14 (.q 15 (.q 16 (.q 18 (.q 22 (.r 17 (.q 19 (.q 20 (.r 21 (.q 23 (.q 24 .nil))))))))))))))))))))))))) (by kernel_rfl) (by kernel_rfl) (Imp.arr qV) ?_
        first|refine Zim rfl (Zav rfl) ?_|refine Zim rfl (Zar rfl) ?_
        refine Zim rfl (Zba rfl) ?_
        first|refine Zim rfl (Zl8 rfl) ?_|refine Zim rfl (Zce rfl) ?_
        first|refine Zim rfl (Zat rfl) ?_|refine Zim rfl (Zar rfl) ?_
        first|refine Zim rfl (Zav rfl) ?_|refine Zim rfl (Zar rfl) ?_
        refine Zim rfl (Zba rfl) ?_
        first|refine Zim rfl (Zl8 rfl) ?_|refine Zim rfl (Zce rfl) ?_
        refine Ziv rfl rfl qH rfl ?_
        first|refine Zim rfl (Zl6 rfl rfl) ?_|refine Zim rfl (Zcg rfl rfl) ?_
        first|refine Zim rfl (Zl8 rfl) ?_|refine Zim rfl (Zce rfl) ?_
        refine Zfh rfl rfl (((hrd qH).atN0 (j := 0) fcells_len hB (by omega) rfl)) ?_
        refine Ziv rfl rfl qH rfl ?_
        refine Zim rfl (Zbr (b := (ops : Int)) rfl rfl) ?_
        refine Zi5 27 rfl (decide_eq_true (hop)) ?_
        first|refine Zim rfl (Zau rfl) ?_|refine Zim rfl (Zar rfl) ?_
        first|refine Zio rfl rfl ?_|refine Zip rfl rfl ?_|refine Zin rfl rfl (Zav rfl) ?_|refine Zin rfl rfl (Zar rfl) ?_
        first|refine Zio rfl rfl ?_|refine Zip rfl rfl ?_|refine Zin rfl rfl (Zba rfl) ?_
        first|refine Zio rfl rfl ?_|refine Zip rfl rfl ?_|refine Zin rfl rfl (Zl8 rfl) ?_|refine Zin rfl rfl (Zce rfl) ?_
        first|refine Zio rfl rfl ?_|refine Zip rfl rfl ?_|refine Zin rfl rfl (Zat rfl) ?_|refine Zin rfl rfl (Zar rfl) ?_
        first|refine Zio rfl rfl ?_|refine Zip rfl rfl ?_|refine Zin rfl rfl (Zat rfl) ?_|refine Zin rfl rfl (Zar rfl) ?_
        first|refine Zi1 rfl rfl ?_|refine Zi2 rfl rfl ?_|refine Ziw rfl rfl rfl qH rfl ?_
        first|refine Zio rfl rfl ?_|refine Zip rfl rfl ?_|refine Zin rfl rfl (Zl6 rfl rfl) ?_|refine Zin rfl rfl (Zcg rfl rfl) ?_
        first|refine Zio rfl rfl ?_|refine Zip rfl rfl ?_|refine Zin rfl rfl (Zl8 rfl) ?_|refine Zin rfl rfl (Zce rfl) ?_
        first|refine Zi1 rfl rfl ?_|refine Zi2 rfl rfl ?_|refine Zfi rfl rfl rfl (((hrd qH).atN0 (j := 1) fcells_len hB (by omega) rfl)) ?_
        first|refine Zio rfl rfl ?_|refine Zip rfl rfl ?_|refine Zin rfl rfl (Zbr (b := kind) rfl rfl) ?_
        refine Zi6 38 rfl (decide_eq_false (hk)) ?_
        first|refine Zim rfl (Zdz rfl rfl) ?_|refine Zim rfl (Zd0 rfl rfl) ?_|refine Zim rfl (Za8 rfl rfl) ?_|refine Zim rfl (Za9 rfl rfl) ?_|refine Zim rfl (Za6 rfl rfl) ?_|refine Zim rfl (Za7 rfl rfl) ?_
        refine Zik ?_
        refine Ct.o ?_
        refine Zgf rfl ?_
        refine Ct.o ?_
        refine Zgb ?_
        first|refine Zhg (Zat rfl) ?_|refine Zhg (Zar rfl) ?_
        first|refine Zhg (Zma (b := 1) rfl rfl) ?_|refine Zhg (Zbg rfl rfl) ?_
        first|refine Zhg (Zaz rfl) ?_|refine Zhg (Zas rfl) ?_
        refine Zg3 ?_
        refine Ct.o ?_
        exact Zgl (i + 1) qO ⟨by omega, by rw [e1, he]; unfold befF; rw [decide_eq_false hk]; simp⟩ qI ⟨rfl, trivial⟩
    · refine Ct.o ?_
      refine Zij ([cl q (rcl pages size (some ⟨g, 0, none⟩) fl.length fc wa wl.length wc reg ops la log.length lc down) 93, own 28 6 (.slice (some ⟨g, 0, none⟩) fl.length fc) fl.length (fl.flatMap fcells)]) [11] (.q 0 (.q 1 (.q 2 (.q 4 (.q 8 (.q 9 (.q 10 (.r 3 (.q 5 (.q 6 (.r 7 (.r 11 (.q 12 (.q 13 (.q 14 (.q 15 (.q 16 (.q 18 (.q 22 (.r 17 (.q 19 (.q 20 (.r 21 (.q 23 (.q 24 .nil))))))))))))))))))))))))) (by kernel_rfl) (by kernel_rfl) (Imp.arr qV) ?_
      first|refine Zim rfl (Zav rfl) ?_|refine Zim rfl (Zar rfl) ?_
      refine Zim rfl (Zba rfl) ?_
      first|refine Zim rfl (Zl8 rfl) ?_|refine Zim rfl (Zce rfl) ?_
      first|refine Zim rfl (Zat rfl) ?_|refine Zim rfl (Zar rfl) ?_
      first|refine Zim rfl (Zav rfl) ?_|refine Zim rfl (Zar rfl) ?_
      refine Zim rfl (Zba rfl) ?_
      first|refine Zim rfl (Zl8 rfl) ?_|refine Zim rfl (Zce rfl) ?_
      refine Ziv rfl rfl qH rfl ?_
      first|refine Zim rfl (Zl6 rfl rfl) ?_|refine Zim rfl (Zcg rfl rfl) ?_
      first|refine Zim rfl (Zl8 rfl) ?_|refine Zim rfl (Zce rfl) ?_
      refine Zfh rfl rfl (((hrd qH).atN0 (j := 0) fcells_len hB (by omega) rfl)) ?_
      refine Ziv rfl rfl qH rfl ?_
      refine Zim rfl (Zbr (b := (ops : Int)) rfl rfl) ?_
      refine Zi6 27 rfl (decide_eq_false (hop)) ?_
      first|refine Zim rfl (Zau rfl) ?_|refine Zim rfl (Zar rfl) ?_
      first|refine Zio rfl rfl ?_|refine Zip rfl rfl ?_|refine Zin rfl rfl (Zav rfl) ?_|refine Zin rfl rfl (Zar rfl) ?_
      first|refine Zio rfl rfl ?_|refine Zip rfl rfl ?_|refine Zin rfl rfl (Zba rfl) ?_
      first|refine Zio rfl rfl ?_|refine Zip rfl rfl ?_|refine Zin rfl rfl (Zl8 rfl) ?_|refine Zin rfl rfl (Zce rfl) ?_
      first|refine Zio rfl rfl ?_|refine Zip rfl rfl ?_|refine Zin rfl rfl (Zat rfl) ?_|refine Zin rfl rfl (Zar rfl) ?_
      first|refine Zio rfl rfl ?_|refine Zip rfl rfl ?_|refine Zin rfl rfl (Zat rfl) ?_|refine Zin rfl rfl (Zar rfl) ?_
      first|refine Zi1 rfl rfl ?_|refine Zi2 rfl rfl ?_|refine Ziw rfl rfl rfl qH rfl ?_
      first|refine Zio rfl rfl ?_|refine Zip rfl rfl ?_|refine Zin rfl rfl (Zl6 rfl rfl) ?_|refine Zin rfl rfl (Zcg rfl rfl) ?_
      first|refine Zio rfl rfl ?_|refine Zip rfl rfl ?_|refine Zin rfl rfl (Zl8 rfl) ?_|refine Zin rfl rfl (Zce rfl) ?_
      first|refine Zi1 rfl rfl ?_|refine Zi2 rfl rfl ?_|refine Ziw rfl rfl rfl qH rfl ?_
      first|refine Zio rfl rfl ?_|refine Zip rfl rfl ?_|refine Zin rfl rfl (Zmj rfl rfl) ?_|refine Zin rfl rfl (Zbr rfl rfl) ?_
      first|refine Zim rfl (Zdz rfl rfl) ?_|refine Zim rfl (Zd0 rfl rfl) ?_|refine Zim rfl (Za8 rfl rfl) ?_|refine Zim rfl (Za9 rfl rfl) ?_|refine Zim rfl (Za6 rfl rfl) ?_|refine Zim rfl (Za7 rfl rfl) ?_
      refine Zik ?_
      refine Ct.o ?_
      refine Zgf rfl ?_
      refine Ct.o ?_
      refine Zgb ?_
      first|refine Zhg (Zat rfl) ?_|refine Zhg (Zar rfl) ?_
      first|refine Zhg (Zma (b := 1) rfl rfl) ?_|refine Zhg (Zbg rfl rfl) ?_
      first|refine Zhg (Zaz rfl) ?_|refine Zhg (Zas rfl) ?_
      refine Zg3 ?_
      refine Ct.o ?_
      exact Zgl (i + 1) qO ⟨by omega, by rw [e1, he]; unfold befF; rw [decide_eq_false hop]; simp⟩ qI ⟨rfl, trivial⟩
  · have hie : i = fl.length := by omega
    subst hie
    rw [List.take_length] at he
    refine Ct.o ?_
    refine Zgb ?_
    first|refine Zhg (Za0 rfl) ?_|refine Zhg (Zas rfl) ?_
    refine Zg3 ?_
    refine Ct.o ?_
    refine rx1 (Zha rfl (Zg7)) ?_
    exact ⟨_, ⟨by rw [he], rfl⟩, qI⟩
end
end Go.Sl

/- the document's host (trystref11): begin, end, Lay, walked. -/
set_option maxHeartbeats 4000000
set_option maxRecDepth 10000
set_option linter.unusedVariables false
set_option linter.unusedSimpArgs false
namespace Go.Sl
open Go Go.Proofs
attribute [local irreducible] cl pt own old pur ex all den denOps denS xOps xC cX CX xthen xblk xcut xloop xgo xng retX resX Calls PV Rd Con
attribute [local irreducible] hostA
section
variable {q pc : Nat} {pages : Int} {size fc wc ops lc : Nat} {fa wa la : Option Addr} {reg : BitVec 64} {down : Bool} {fl : List HostS.Fault} {wl : List Wr} {log : List HostS.Touch} {nf nw nl : Nat}
theorem rBegin_down (t : HostS.Touch) : Con Try.prog 53 [hp q, .agg (tcells t).toArray] [cl q (rcl pages size fa nf fc wa nw wc reg ops la nl lc true) 93] (fun r M => r = .bool false ∧ M = [cl q (rcl pages size fa nf fc wa nw wc reg ops la nl lc true) 93]) := by
  refine fn_x Try.func53 rfl rfl rfl Try.mixed (by kernel_rfl) ?_
  intro w0
  refine Ct.o ?_
  refine Zgb ?_
  refine Zh5 rfl ?_; intro b3
  first|refine Zhg (Za0 rfl) ?_|refine Zhg (Zas rfl) ?_
  refine Zg3 ?_
  refine Ct.o ?_
  refine Zgb ?_
  first|refine Zhg (Zav rfl) ?_|refine Zhg (Zar rfl) ?_
  refine Zhg (Zba rfl) ?_
  first|refine Zhg (Zl8 rfl) ?_|refine Zhg (Zce rfl) ?_
  refine Zhp rfl qH rfl ?_
  refine Zg3 ?_
  refine Ct.o ?_
  refine Zge rfl ?_
  refine Ct.o ?_
  refine Zgb ?_
  first|refine Zhg (Za0 rfl) ?_|refine Zhg (Zas rfl) ?_
  refine Zg3 ?_
  refine Ct.o ?_
  refine rx1 (Zha rfl (Zg7)) ?_
  exact ⟨_, ⟨rfl, rfl⟩, qI⟩
theorem rBegin_before (t : HostS.Touch) (hfl : fl.length ≤ 9223372036854775807) (hops : ops ≤ 3298534883328) (h : fl.any (befF ops 3) = true) : Con Try.prog 53 [hp q, .agg (tcells t).toArray] [cl q (rcl pages size fa fl.length fc wa wl.length wc reg ops la log.length lc false) 93, own 28 6 (.slice fa fl.length fc) fl.length (fl.flatMap fcells)] (fun r M => r = .bool false ∧ M = [cl q (rcl pages size fa fl.length fc wa wl.length wc reg (ops + 1) la log.length lc true) 93, own 28 6 (.slice fa fl.length fc) fl.length (fl.flatMap fcells)]) := by
  refine fn_x Try.func53 rfl rfl rfl Try.mixed (by kernel_rfl) ?_
  intro w0
  refine Ct.o ?_
  refine Zgb ?_
  refine Zh5 rfl ?_; intro b3
  first|refine Zhg (Za0 rfl) ?_|refine Zhg (Zas rfl) ?_
  refine Zg3 ?_
  refine Ct.o ?_
  refine Zgb ?_
  first|refine Zhg (Zav rfl) ?_|refine Zhg (Zar rfl) ?_
  refine Zhg (Zba rfl) ?_
  first|refine Zhg (Zl8 rfl) ?_|refine Zhg (Zce rfl) ?_
  refine Zhp rfl qH rfl ?_
  refine Zg3 ?_
  refine Ct.o ?_
  refine Zgf rfl ?_
  refine Ct.o ?_
  refine Zgb ?_
  first|refine Zhg (Zav rfl) ?_|refine Zhg (Zar rfl) ?_
  refine Zh8 rfl (by kernel_rfl) (rBefalls_x 3 hfl) rfl qT ?_
  rintro _ _ ⟨rfl, rfl⟩
  refine Zg2 qA ?_
  refine Zhm 10 rfl (h) ?_
  refine Zg3 ?_
  refine Ct.o ?_
  refine Zge rfl ?_
  refine Ct.o ?_
  refine Zgb ?_
  first|refine Zhg (Zav rfl) ?_|refine Zhg (Zar rfl) ?_
  refine Zhg (Zba rfl) ?_
  first|refine Zhg (Zl8 rfl) ?_|refine Zhg (Zce rfl) ?_
  refine Zhu rfl rfl qR qZ rfl ?_
  refine Zg3 ?_
  refine Ct.o ?_
  refine Zgb ?_
  first|refine Zhg (Zav rfl) ?_|refine Zhg (Zar rfl) ?_
  first|refine Zhg (Zav rfl) ?_|refine Zhg (Zar rfl) ?_
  refine Zhg (Zba rfl) ?_
  first|refine Zhg (Zl8 rfl) ?_|refine Zhg (Zce rfl) ?_
  refine Zhp rfl qH rfl ?_
  first|refine Zhg (Zma (b := 1) rfl rfl) ?_|refine Zhg (Zbg rfl rfl) ?_
  refine Zhg (Zba rfl) ?_
  first|refine Zhg (Zl8 rfl) ?_|refine Zhg (Zce rfl) ?_
  refine Zht rfl rfl qR qZ rfl ?_
  refine Zg3 ?_
  refine Ct.o ?_
  refine Zgb ?_
  first|refine Zhg (Za0 rfl) ?_|refine Zhg (Zas rfl) ?_
  refine Zg3 ?_
  refine Ct.o ?_
  refine rx1 (Zha rfl (Zg7)) ?_
  exact ⟨_, ⟨rfl, rfl⟩, qI⟩
theorem rBegin_ok (t : HostS.Touch) (ht : t.head.length = 12) (hfl : fl.length ≤ 9223372036854775807) (hll : log.length ≤ 3298534883328) (h : fl.any (befF ops 3) = false) :
    Con Try.prog 53 [hp q, .agg (tcells t).toArray] [cl q (rcl pages size fa fl.length fc wa wl.length wc reg ops la log.length lc false) 93, own 28 6 (.slice fa fl.length fc) fl.length (fl.flatMap fcells), own 56 15 (.slice la log.length lc) log.length (log.flatMap tcells)] (fun r M => r = .bool true ∧ ∃ la' lc', M = [cl q (rcl pages size fa fl.length fc wa wl.length wc reg ops la' (log ++ [t]).length lc' false) 93, own 28 6 (.slice fa fl.length fc) fl.length (fl.flatMap fcells), own 56 15 (.slice la' (log ++ [t]).length lc') (log ++ [t]).length ((log ++ [t]).flatMap tcells)]) := by
  have htl := tcells_len t ht
  refine fn_x Try.func53 rfl rfl rfl Try.mixed (by kernel_rfl) ?_
  intro w0
  refine Ct.o ?_
  refine Zgb ?_
  refine Zh5 rfl ?_; intro b3
  first|refine Zhg (Za0 rfl) ?_|refine Zhg (Zas rfl) ?_
  refine Zg3 ?_
  refine Ct.o ?_
  refine Zgb ?_
  first|refine Zhg (Zav rfl) ?_|refine Zhg (Zar rfl) ?_
  refine Zhg (Zba rfl) ?_
  first|refine Zhg (Zl8 rfl) ?_|refine Zhg (Zce rfl) ?_
  refine Zhp rfl qH rfl ?_
  refine Zg3 ?_
  refine Ct.o ?_
  refine Zgf rfl ?_
  refine Ct.o ?_
  refine Zgb ?_
  first|refine Zhg (Zav rfl) ?_|refine Zhg (Zar rfl) ?_
  refine Zh8 rfl (by kernel_rfl) (rBefalls_x 3 hfl) rfl qT ?_
  rintro _ _ ⟨rfl, rfl⟩
  refine Zg2 qA ?_
  refine Zhn 10 rfl (h) ?_
  refine Zg3 ?_
  refine Ct.o ?_
  refine Zgf rfl ?_
  refine Ct.o ?_
  refine Zij ([cl q (rcl pages size fa fl.length fc wa wl.length wc reg ops la log.length lc false) 93, cl b3 (tcells t).toArray 56, own 56 15 (.slice la log.length lc) log.length (log.flatMap tcells)]) [5, 6] (.q 0 (.q 1 (.q 2 (.q 3 (.r 4 (.r 5 (.e 6 true (.e 7 false (.q 8 (.q 9 (.e 10 false .nil))))))))))) (by kernel_rfl) (by kernel_rfl) (Imp.arr qV) ?_
  first|refine Zim rfl (Zav rfl) ?_|refine Zim rfl (Zar rfl) ?_
  first|refine Zim rfl (Zav rfl) ?_|refine Zim rfl (Zar rfl) ?_
  refine Zim rfl (Zba rfl) ?_
  first|refine Zim rfl (Zl8 rfl) ?_|refine Zim rfl (Zce rfl) ?_
  refine Ziv rfl rfl qH rfl ?_
  first|refine Ziy rfl rfl qH qZ ?_|refine Zix rfl rfl qH qZ rfl ?_
  refine Ziq rfl ?_; refine Zh7 (cs := (tcells t).toArray) (by omega) (by omega) (by exact fill_one (by show (tcells t).toArray.size = 15; simp [htl]) rfl) ?_; intro b28; refine Zg3 ⟨fun _ => Imp.arr qV, ?_⟩
  refine Ziq rfl ?_
  refine Zia rfl rfl qH (Rd.cl (xs := tcells t) qH htl (by show 0 + 1 * 15 ≤ (tcells t).toArray.size; simp [htl]) (by simp; exact List.take_of_length_le (by omega))) (by first|rfl|exact oneM_u8 _|exact oneL_u8 _|exact fc_one _|exact fc_ones _|exact tcells_one _|(simp [oneC]; done)) (by omega) qS ?_; intro a3 c3
  refine Zg3 ⟨(fun hh => Bool.noConfusion hh), ?_⟩
  refine Zim rfl (Zba rfl) ?_
  first|refine Zim rfl (Zl8 rfl) ?_|refine Zim rfl (Zce rfl) ?_
  refine Ziq rfl ?_
  refine Zhw rfl rfl qR qZ rfl ?_
  refine Zg3 ⟨(fun hh => Bool.noConfusion hh), ?_⟩
  refine Zik ?_
  refine Ct.o ?_
  refine Zgb ?_
  first|refine Zhg (Za0 rfl) ?_|refine Zhg (Zas rfl) ?_
  refine Zg3 ?_
  refine Ct.o ?_
  have e1 : log.flatMap tcells ++ tcells t = (log ++ [t]).flatMap tcells := by simp
  have e2 : log.length + 1 = (log ++ [t]).length := by simp
  rw [e1, e2]
  refine rx1 (Zha rfl (Zg7)) ?_
  exact ⟨_, ⟨rfl, a3, c3, rfl⟩, qI⟩
theorem rEnd_x (hfl : fl.length ≤ 9223372036854775807) (hops : ops ≤ 3298534883328) : Con Try.prog 55 [hp q] [cl q (rcl pages size fa fl.length fc wa wl.length wc reg ops la log.length lc down) 93, own 28 6 (.slice fa fl.length fc) fl.length (fl.flatMap fcells)] (fun r M => r = .bool (!fl.any (befF ops 4)) ∧ M = [cl q (rcl pages size fa fl.length fc wa wl.length wc reg (ops + 1) la log.length lc (fl.any (befF ops 4))) 93, own 28 6 (.slice fa fl.length fc) fl.length (fl.flatMap fcells)]) := by
  refine fn_x Try.func55 rfl rfl rfl Try.mixed (by kernel_rfl) ?_
  intro w0
  refine Ct.o ?_
  refine Zgb ?_
  first|refine Zhg (Za0 rfl) ?_|refine Zhg (Zas rfl) ?_
  refine Zg3 ?_
  refine Ct.o ?_
  refine Zgb ?_
  first|refine Zhg (Zav rfl) ?_|refine Zhg (Zar rfl) ?_
  first|refine Zhg (Zav rfl) ?_|refine Zhg (Zar rfl) ?_
  refine Zh8 rfl (by kernel_rfl) (rBefalls_x 4 hfl) rfl qT ?_
  rintro _ _ ⟨rfl, rfl⟩
  refine Zg2 qA ?_
  refine Zhg (Zba rfl) ?_
  first|refine Zhg (Zl8 rfl) ?_|refine Zhg (Zce rfl) ?_
  refine Zhu rfl rfl qR qZ rfl ?_
  refine Zg3 ?_
  refine Ct.o ?_
  refine Zgb ?_
  first|refine Zhg (Zav rfl) ?_|refine Zhg (Zar rfl) ?_
  first|refine Zhg (Zav rfl) ?_|refine Zhg (Zar rfl) ?_
  refine Zhg (Zba rfl) ?_
  first|refine Zhg (Zl8 rfl) ?_|refine Zhg (Zce rfl) ?_
  refine Zhp rfl qH rfl ?_
  first|refine Zhg (Zma (b := 1) rfl rfl) ?_|refine Zhg (Zbg rfl rfl) ?_
  refine Zhg (Zba rfl) ?_
  first|refine Zhg (Zl8 rfl) ?_|refine Zhg (Zce rfl) ?_
  refine Zht rfl rfl qR qZ rfl ?_
  refine Zg3 ?_
  refine Ct.o ?_
  refine Zgb ?_
  first|refine Zhg (Zav rfl) ?_|refine Zhg (Zar rfl) ?_
  refine Zhg (Zba rfl) ?_
  first|refine Zhg (Zl8 rfl) ?_|refine Zhg (Zce rfl) ?_
  refine Zhp rfl qH rfl ?_
  refine Zhg (Zb0 rfl) ?_
  first|refine Zhg (Za0 rfl) ?_|refine Zhg (Zas rfl) ?_
  refine Zg3 ?_
  refine Ct.o ?_
  refine rx1 (Zha rfl (Zg7)) ?_
  exact ⟨_, ⟨rfl, rfl⟩, qI⟩
theorem rRestart_x : Con Try.prog 44 [hp q] [cl q (rcl pages size fa fl.length fc wa wl.length wc reg ops la log.length lc down) 93] (fun r M => M = [cl q (rcl pages size fa fl.length fc wa wl.length wc reg ops la log.length lc false) 93]) := by
  refine fn_x Try.func44 rfl rfl rfl Try.mixed (by kernel_rfl) ?_
  intro w0
  refine Ct.o ?_
  refine Zgb ?_
  first|refine Zhg (Zav rfl) ?_|refine Zhg (Zar rfl) ?_
  refine Zhg (Zba rfl) ?_
  first|refine Zhg (Zl8 rfl) ?_|refine Zhg (Zce rfl) ?_
  refine Zhu rfl rfl qR qZ rfl ?_
  refine Zg3 ?_
  refine Ct.o ?_
  first|refine rx0 ?_|refine rx0n ?_
  exact ⟨_, rfl, qI⟩
/-- What lay on a page so many writes ago, off the row of all writes. -/
def layW (wl : List Wr) (size : Nat) (page w : Int) : List Byte :=
  let l := rowsW wl page
  let at_ : Int := (l.length : Int) - 1 - max w 0
  if 0 ≤ at_ then l.getD at_.toNat [] else List.replicate size 0#8
theorem layW_hit (wl : List Wr) (size : Nat) (page w : Int) (i : Nat) (hi : i < wl.length) (hp : wl[i].1 = page) (hc : ((rowsW (wl.drop (i + 1)) page).length : Int) = max w 0) : layW wl size page w = wl[i].2.2.2 := by
  unfold layW
  dsimp only
  rw [rowsW_at wl i hi page, if_pos hp, List.length_append, List.length_append, List.length_singleton]
  have e : (((rowsW (wl.take i) page).length + (1 + (rowsW (wl.drop (i + 1)) page).length) : Nat) : Int) - 1 - max w 0 = ((rowsW (wl.take i) page).length : Nat) := by omega
  rw [e, if_pos (by omega), Int.toNat_natCast, List.getD_eq_getElem?_getD, List.getElem?_append_right (by omega), Nat.sub_self]
  rfl
theorem layW_miss (wl : List Wr) (size : Nat) (page w : Int) (h : ((rowsW wl page).length : Int) ≤ max w 0) : layW wl size page w = List.replicate size 0#8 := by
  unfold layW
  dsimp only
  rw [if_neg (by omega)]
theorem rLay_x (page w : Int) (hw : -9223372036854775808 ≤ w ∧ w ≤ 9223372036854775807) (hwl : wl.length ≤ 3298534883328) (hsz : size ≤ 4124) (hb : ∀ e ∈ wl, e.2.2.2.length = size) :
    Con Try.prog 56 [hp q, .int .i64 page, .int .i64 w] [cl q (rcl pages size fa fl.length fc wa wl.length wc reg ops la log.length lc down) 93, own 97 2 (.slice wa wl.length wc) wl.length (wl.flatMap wcell), star ownP (wl.map (·.2))] (fun r M => ∃ a c, r = .slice a size c ∧ M = [own 5 1 (.slice a size c) size ((layW wl size page w).map u8b), cl q (rcl pages size fa fl.length fc wa wl.length wc reg ops la log.length lc down) 93, own 97 2 (.slice wa wl.length wc) wl.length (wl.flatMap wcell), star ownP (wl.map (·.2))]) := by
  refine fn_x Try.func56 rfl rfl rfl Try.mixed (by kernel_rfl) ?_
  intro w0
  refine Ct.o ?_
  refine Zgb ?_
  first|refine Zhg (Za2 rfl) ?_|refine Zhg (Zas rfl) ?_
  refine Zg3 ?_
  refine Ct.o ?_
  refine Zgb ?_
  first|refine Zhg (Zav rfl) ?_|refine Zhg (Zar rfl) ?_
  refine Zhg (Zba rfl) ?_
  first|refine Zhg (Zl8 rfl) ?_|refine Zhg (Zce rfl) ?_
  refine Zhp rfl qH rfl ?_
  first|refine Zhg (Zcr rfl) ?_|refine Zhg (Zct) ?_|refine Zhg (Zcu rfl) ?_
  refine Zhg (Zbh (b := 1) rfl rfl (by omega)) ?_
  first|refine Zhg (Zaz rfl) ?_|refine Zhg (Zas rfl) ?_
  refine Zg3 ?_
  refine Ct.o ?_
  refine Zgo [(2, 2), (6, 8), (15, 42)] (by kernel_rfl) (fun s : Nat × Int => s.1 ≤ wl.length ∧ s.2 = w - (rowsW (wl.drop s.1) page).length ∧ ((rowsW (wl.drop s.1) page).length = 0 ∨ 0 ≤ s.2)) (fun _ => [cl q (rcl pages size fa fl.length fc wa wl.length wc reg ops la log.length lc down) 93, own 97 2 (.slice wa wl.length wc) wl.length (wl.flatMap wcell), star ownP (wl.map (·.2))]) (fun s => [(7, .int .i64 ((s.1 : Int) - 1)), (2, .int .i64 s.2)]) (fun s => s.1) (wl.length, w) ⟨Nat.le_refl _, by rw [List.drop_length]; show w = w - 0; omega, .inl (by rw [List.drop_length]; rfl)⟩ qI ⟨rfl, rfl, trivial⟩ ?_
  rintro ⟨i, b⟩ u ⟨hi, hbe, hbz⟩
  dsimp only at hi hbe hbz ⊢
  refine Ct.o ?_
  refine Zgb ?_
  first|refine Zhg (Zat rfl) ?_|refine Zhg (Zar rfl) ?_
  refine Zhg (Zbq (b := 0) rfl rfl) ?_
  refine Zg3 ?_
  refine Ct.o ?_
  refine Zgg rfl (fun hB => ?_) (fun hB => ?_)
  · obtain ⟨j, rfl⟩ : ∃ j, i = j + 1 := ⟨i - 1, by omega⟩
    have hj : j < wl.length := by omega
    refine Zgt (fun F w H => own_someN (n := wl.length) (a := wa) qH (by omega) H) ?_
    rintro ⟨g, rfl⟩
    have hrd : ∀ {M M' : List Asrt}, Has M (own 97 2 (.slice (some ⟨g, 0, none⟩) wl.length wc) wl.length (wl.flatMap wcell)) M' → Rd M 2 (.slice (some ⟨g, 0, none⟩) wl.length wc) wl.length (wl.flatMap wcell) := fun h => Rd.own h
    have hdr := rowsW_drop wl j hj page
    by_cases hp : wl[j].1 = page
    · by_cases hb0 : b ≤ 0
      · have hhit : layW wl size page w = wl[j].2.2.2 := layW_hit wl size page w j hj hp (by omega)
        have hlen := hb wl[j] (List.getElem_mem hj)
        obtain ⟨part, hpart⟩ : ∃ part, part = wl[j].2 := ⟨_, rfl⟩
        have hmem : part ∈ wl.map (·.2) := by rw [hpart]; exact List.mem_map_of_mem (List.getElem_mem hj)
        have hbs : ∀ {M M' : List Asrt}, Has M (star ownP (wl.map (·.2))) M' → Bs M (vP part) part.2.2 := fun hm => star_bs hmem (fun R => ownP_bs .here) hm
        have hval : RdAt [own 97 2 (.slice (some ⟨g, 0, none⟩) wl.length wc) wl.length (wl.flatMap wcell)] g (j * 2 + 1) (vP part) := (hrd .here).atN0 (j := 1) wcell_len hj (by omega) (by rw [hpart]; rfl)
        rw [hhit, ← hpart]
        rw [← hpart] at hlen
        obtain ⟨pa, pk, pl⟩ := part
        refine Ct.o ?_
        refine Zgb ?_
        first|refine Zhg (Zav rfl) ?_|refine Zhg (Zar rfl) ?_
        refine Zhg (Zba rfl) ?_
        first|refine Zhg (Zl8 rfl) ?_|refine Zhg (Zce rfl) ?_
        refine Zhp rfl qH rfl ?_
        first|refine Zhg (Zat rfl) ?_|refine Zhg (Zar rfl) ?_
        first|refine Zhg (Zl6 (n := j) rfl (int_eq (by push_cast; omega))) ?_|refine Zhg (Zcg (n := j) rfl (int_eq (by push_cast; omega))) ?_
        first|refine Zhg (Zl8 rfl) ?_|refine Zhg (Zce rfl) ?_
        refine Zff rfl (((hrd qH).atN0 (j := 0) wcell_len hj (by omega) rfl)) ?_
        first|refine Zhg (Zat rfl) ?_|refine Zhg (Zar rfl) ?_
        refine Zhg (Zbs (b := page) rfl rfl) ?_
        refine Zhn 28 rfl (decide_eq_false ((fun h => h hp))) ?_
        refine Zg3 ?_
        refine Ct.o ?_
        refine Zgf rfl ?_
        refine Ct.o ?_
        refine Zgb ?_
        first|refine Zhg (Zat rfl) ?_|refine Zhg (Zar rfl) ?_
        refine Zhg (Zbo (b := 0) rfl rfl) ?_
        refine Zhm 30 rfl (decide_eq_true (hb0)) ?_
        refine Zg3 ?_
        refine Ct.o ?_
        refine Zge rfl ?_
        refine Ct.o ?_
        refine Zgb ?_
        first|refine Zhg (Za2 rfl) ?_|refine Zhg (Zas rfl) ?_
        refine Zg3 ?_
        refine Ct.o ?_
        refine Zgp (Imp.own_nil (E := 5) (size := 1)) ?_
        refine Ct.o ?_
        refine Zgb ?_
        first|refine Zhg (Zaw rfl) ?_|refine Zhg (Zar rfl) ?_
        first|refine Zhg (Zav rfl) ?_|refine Zhg (Zar rfl) ?_
        refine Zhg (Zba rfl) ?_
        first|refine Zhg (Zl8 rfl) ?_|refine Zhg (Zce rfl) ?_
        refine Zhp rfl qH rfl ?_
        first|refine Zhg (Zat rfl) ?_|refine Zhg (Zar rfl) ?_
        first|refine Zhg (Zl6 (n := j) rfl (int_eq (by push_cast; omega))) ?_|refine Zhg (Zcg (n := j) rfl (int_eq (by push_cast; omega))) ?_
        first|refine Zhg (Zl8 rfl) ?_|refine Zhg (Zce rfl) ?_
        refine Zff rfl ((hval.imp qI)) ?_
        refine Zia rfl rfl qH ((hbs qH).rd) (by first|rfl|exact oneM_u8 _|exact oneL_u8 _|exact fc_one _|exact fc_ones _|exact tcells_one _|(simp [oneC]; done)) (by omega) qS ?_; intro a3 c3
        first|refine Zhg (Za2 rfl) ?_|refine Zhg (Zas rfl) ?_
        refine Zg3 ?_
        refine Ct.o ?_
        dsimp only at hlen
        rw [Nat.zero_add, List.nil_append, hlen]
        refine rx1 (Zhc rfl (Zg7)) ?_
        exact ⟨_, ⟨a3, c3, rfl, rfl⟩, qI⟩
      · refine Ct.o ?_
        refine Zgb ?_
        first|refine Zhg (Zav rfl) ?_|refine Zhg (Zar rfl) ?_
        refine Zhg (Zba rfl) ?_
        first|refine Zhg (Zl8 rfl) ?_|refine Zhg (Zce rfl) ?_
        refine Zhp rfl qH rfl ?_
        first|refine Zhg (Zat rfl) ?_|refine Zhg (Zar rfl) ?_
        first|refine Zhg (Zl6 (n := j) rfl (int_eq (by push_cast; omega))) ?_|refine Zhg (Zcg (n := j) rfl (int_eq (by push_cast; omega))) ?_
        first|refine Zhg (Zl8 rfl) ?_|refine Zhg (Zce rfl) ?_
        refine Zff rfl (((hrd qH).atN0 (j := 0) wcell_len hj (by omega) rfl)) ?_
        first|refine Zhg (Zat rfl) ?_|refine Zhg (Zar rfl) ?_
        refine Zhg (Zbs (b := page) rfl rfl) ?_
        refine Zhn 28 rfl (decide_eq_false ((fun h => h hp))) ?_
        refine Zg3 ?_
        refine Ct.o ?_
        refine Zgf rfl ?_
        refine Ct.o ?_
        refine Zgb ?_
        first|refine Zhg (Zat rfl) ?_|refine Zhg (Zar rfl) ?_
        refine Zhg (Zbo (b := 0) rfl rfl) ?_
        refine Zhn 30 rfl (decide_eq_false (hb0)) ?_
        refine Zg3 ?_
        refine Ct.o ?_
        refine Zgf rfl ?_
        refine Ct.o ?_
        refine Zgb ?_
        first|refine Zhg (Zat rfl) ?_|refine Zhg (Zar rfl) ?_
        refine Zhg (Zbh (b := 1) rfl rfl (by omega)) ?_
        first|refine Zhg (Zaz rfl) ?_|refine Zhg (Zas rfl) ?_
        refine Zg3 ?_
        refine Ct.o ?_
        refine Zgb ?_
        first|refine Zhg (Zat rfl) ?_|refine Zhg (Zar rfl) ?_
        refine Zhg (Zbh (b := 1) rfl rfl (by omega)) ?_
        first|refine Zhg (Zaz rfl) ?_|refine Zhg (Zas rfl) ?_
        refine Zg3 ?_
        refine Ct.o ?_
        rw [if_pos hp] at hdr
        have hdl : (rowsW (wl.drop j) page).length = (rowsW (wl.drop (j + 1)) page).length + 1 := by rw [hdr]; simp
        exact Zgl (j, b - 1) qO ⟨by dsimp only; omega, by dsimp only; omega, .inr (by dsimp only; omega)⟩ qI ⟨int_eq (by push_cast; omega), rfl, trivial⟩
    · refine Ct.o ?_
      refine Zgb ?_
      first|refine Zhg (Zav rfl) ?_|refine Zhg (Zar rfl) ?_
      refine Zhg (Zba rfl) ?_
      first|refine Zhg (Zl8 rfl) ?_|refine Zhg (Zce rfl) ?_
      refine Zhp rfl qH rfl ?_
      first|refine Zhg (Zat rfl) ?_|refine Zhg (Zar rfl) ?_
      first|refine Zhg (Zl6 (n := j) rfl (int_eq (by push_cast; omega))) ?_|refine Zhg (Zcg (n := j) rfl (int_eq (by push_cast; omega))) ?_
      first|refine Zhg (Zl8 rfl) ?_|refine Zhg (Zce rfl) ?_
      refine Zff rfl (((hrd qH).atN0 (j := 0) wcell_len hj (by omega) rfl)) ?_
      first|refine Zhg (Zat rfl) ?_|refine Zhg (Zar rfl) ?_
      refine Zhg (Zbs (b := page) rfl rfl) ?_
      refine Zhm 28 rfl (decide_eq_true (hp)) ?_
      refine Zg3 ?_
      refine Ct.o ?_
      refine Zge rfl ?_
      refine Ct.o ?_
      refine Zgb ?_
      first|refine Zhg (Zat rfl) ?_|refine Zhg (Zar rfl) ?_
      refine Zhg (Zbh (b := 1) rfl rfl (by omega)) ?_
      first|refine Zhg (Zaz rfl) ?_|refine Zhg (Zas rfl) ?_
      refine Zg3 ?_
      refine Ct.o ?_
      rw [if_neg hp, List.nil_append] at hdr
      exact Zgl (j, b) qO ⟨by dsimp only; omega, by dsimp only; rw [hdr]; exact hbe, by dsimp only; rw [hdr]; exact hbz⟩ qI ⟨int_eq (by push_cast; omega), rfl, trivial⟩
  · have hie : i = 0 := by omega
    subst hie
    rw [List.drop_zero] at hbe hbz
    rw [layW_miss wl size page w (by omega)]
    refine Ct.o ?_
    refine Zgb ?_
    first|refine Zhg (Zav rfl) ?_|refine Zhg (Zar rfl) ?_
    refine Zhg (Zba rfl) ?_
    first|refine Zhg (Zl8 rfl) ?_|refine Zhg (Zce rfl) ?_
    refine Zhp rfl qH rfl ?_
    refine Zm3 (f := u8b) (a := 0#8) rfl rfl rfl qS qS qS ?_; intro b47
    first|refine Zhg (Za2 rfl) ?_|refine Zhg (Zas rfl) ?_
    refine Zg3 ?_
    refine Ct.o ?_
    refine rx1 (Zhc rfl (Zg7)) ?_
    refine ⟨_, ⟨some ⟨b47, 0, none⟩, size, rfl, rfl⟩, ?_⟩
    exact (Imp.arr (N := cl b47 ((List.replicate size 0#8).map u8b).toArray 5 :: [cl q (rcl pages size fa fl.length fc wa wl.length wc reg ops la log.length lc down) 93, own 97 2 (.slice wa wl.length wc) wl.length (wl.flatMap wcell), star ownP (wl.map (·.2))]) qV).trans (Imp.own_mk (Nat.le_refl _) (by omega) (by simp) (by simp))
end
end Go.Sl

/- the document's host (trystref11): spoilt, walked. -/
set_option maxHeartbeats 4000000
set_option maxRecDepth 10000
set_option linter.unusedVariables false
set_option linter.unusedSimpArgs false
namespace Go.Sl
open Go Go.Proofs
attribute [local irreducible] cl pt own old pur ex all den denOps denS xOps xC cX CX xthen xblk xcut xloop xgo xng retX resX Calls PV Rd Con
attribute [local irreducible] hostA
theorem layW_back {s : HostS.HS} {wl : List Wr} (h : ∀ p, s.lay p = rowsW wl p) (page w : Int) : layW wl s.size page w = HostS.back s page w := by unfold layW HostS.back; rw [h]
theorem comes_next (fl : List HostS.Fault) (k : Int) (i : Nat) (hi : i < fl.length) : HostS.comes (fl.take (i + 1)) k = HostS.comes (fl.take i) k ++ (if fl[i].at_ = k then [fl[i]] else []) := by
  unfold HostS.comes
  rw [List.take_succ_eq_append_getElem hi, List.filter_append]
  congr 1
  by_cases h : fl[i].at_ = k <;> simp [h]
section
variable {q pc : Nat} {pages : Int} {size fc wc ops lc : Nat} {fa wa la : Option Addr} {reg : BitVec 64} {down : Bool} {fl : List HostS.Fault} {wl : List Wr} {log : List HostS.Touch} {nf nw nl : Nat}
theorem rSpoilt_x (s : HostS.HS) (hok : HostS.Ok s) (hpg : s.pages = pages) (hsz : s.size = size) (hlay : ∀ p, s.lay p = rowsW wl p) (page : Int) (hfl : fl.length ≤ 9223372036854775807) (hfo : ∀ f ∈ fl, HostS.FOk f) (hwl : wl.length ≤ 3298534883328) (hb : ∀ e ∈ wl, e.2.2.2.length = size) :
    Con Try.prog 54 [hp q, .int .i64 page] [cl q (rcl pages size fa fl.length fc wa wl.length wc reg ops la log.length lc down) 93, own 28 6 (.slice fa fl.length fc) fl.length (fl.flatMap fcells), own 97 2 (.slice wa wl.length wc) wl.length (wl.flatMap wcell), star ownP (wl.map (·.2))] (fun r M => ∃ a c, r = .slice a size c ∧ M = [own 5 1 (.slice a size c) size ((HostS.spoilt s page (HostS.comes fl ops)).map u8b), cl q (rcl pages size fa fl.length fc wa wl.length wc reg ops la log.length lc down) 93, own 28 6 (.slice fa fl.length fc) fl.length (fl.flatMap fcells), own 97 2 (.slice wa wl.length wc) wl.length (wl.flatMap wcell), star ownP (wl.map (·.2))]) := by
  have hz1 := hok.z1
  have hLay := fun (page w : Int) (hw : -9223372036854775808 ≤ w ∧ w ≤ 9223372036854775807) => rLay_x (q := q) (pages := pages) (size := size) (fc := fc) (wc := wc) (ops := ops) (lc := lc) (fa := fa) (wa := wa) (la := la) (reg := reg) (down := down) (fl := fl) (wl := wl) (log := log) page w hw hwl (by omega) hb
  have hbk : ∀ page w, layW wl size page w = HostS.back s page w := fun page w => by rw [← hsz]; exact layW_back hlay page w
  simp only [hbk] at hLay
  have hLay0 := fun page => hLay page 0 (by omega)
  refine fn_x Try.func54 rfl rfl rfl Try.mixed (by kernel_rfl) ?_
  intro w0
  refine Ct.o ?_
  refine Zgb ?_
  first|refine Zhg (Za2 rfl) ?_|refine Zhg (Zas rfl) ?_
  refine Zg3 ?_
  refine Ct.o ?_
  refine Zgb ?_
  first|refine Zhg (Zav rfl) ?_|refine Zhg (Zar rfl) ?_
  first|refine Zhg (Zat rfl) ?_|refine Zhg (Zar rfl) ?_
  refine Zh8 rfl (by kernel_rfl) (hLay0 page) rfl qT ?_
  rintro _ _ ⟨a0, k0, rfl, rfl⟩
  refine Zg2 qA ?_
  first|refine Zhg (Za2 rfl) ?_|refine Zhg (Zas rfl) ?_
  refine Zg3 ?_
  refine Ct.o ?_
  refine Zgb ?_
  first|refine Zhg (Zaz rfl) ?_|refine Zhg (Zas rfl) ?_
  refine Zg3 ?_
  refine Ct.o ?_
  refine Zgo [(5, 7), (11, 81)] (by kernel_rfl) (fun t : Nat × Option Addr × Nat => t.1 ≤ fl.length) (fun t => own 5 1 (.slice t.2.1 size t.2.2) size (((HostS.comes (fl.take t.1) ops).foldl (HostS.spoil1 s page) (HostS.back s page 0)).map u8b) :: [cl q (rcl pages size fa fl.length fc wa wl.length wc reg ops la log.length lc down) 93, own 28 6 (.slice fa fl.length fc) fl.length (fl.flatMap fcells), own 97 2 (.slice wa wl.length wc) wl.length (wl.flatMap wcell), star ownP (wl.map (·.2))]) (fun t => [(6, nvv t.1), (5, .slice t.2.1 size t.2.2)]) (fun t => fl.length - t.1) (0, a0, k0) (Nat.zero_le _) (by rw [List.take_zero]; exact qI) ⟨rfl, rfl, trivial⟩ ?_
  rintro ⟨i, a, c⟩ u hi
  dsimp only at hi ⊢
  refine Ct.o ?_
  refine Zgb ?_
  first|refine Zhg (Zat rfl) ?_|refine Zhg (Zar rfl) ?_
  first|refine Zhg (Zav rfl) ?_|refine Zhg (Zar rfl) ?_
  refine Zhg (Zba rfl) ?_
  first|refine Zhg (Zl8 rfl) ?_|refine Zhg (Zce rfl) ?_
  refine Zhp rfl qH rfl ?_
  first|refine Zhg (Zcr rfl) ?_|refine Zhg (Zct) ?_|refine Zhg (Zcu rfl) ?_
  first|refine Zhg (Zmf rfl rfl) ?_|refine Zhg (Zbn rfl rfl) ?_
  refine Zg3 ?_
  refine Ct.o ?_
  refine Zgg rfl (fun hB => ?_) (fun hB => ?_)
  · refine Zgt (fun F w H => own_someN (n := fl.length) (a := fa) qH (by omega) H) ?_
    rintro ⟨g, rfl⟩
    have hrd : ∀ {M M' : List Asrt}, Has M (own 28 6 (.slice (some ⟨g, 0, none⟩) fl.length fc) fl.length (fl.flatMap fcells)) M' → Rd M 6 (.slice (some ⟨g, 0, none⟩) fl.length fc) fl.length (fl.flatMap fcells) := fun h => Rd.own h
    have hcn := comes_next fl ops i hB
    have hfi : HostS.FOk fl[i] := hfo _ (List.getElem_mem hB)
    have hbl : ((HostS.comes (fl.take i) ops).foldl (HostS.spoil1 s page) (HostS.back s page 0)).length = s.size := spoil_len hok page _ _ (back_len hok page 0)
    have hag : RdAg [own 28 6 (.slice (some ⟨g, 0, none⟩) fl.length fc) fl.length (fl.flatMap fcells)] g (i * 6) 6 (fcells fl[i]).toArray := (hrd .here).agN0 fcells_len (by omega) hB
    generalize fl[i] = f at hcn hfi hag
    refine Ct.o ?_
    refine Zgb ?_
    first|refine Zhg (Zav rfl) ?_|refine Zhg (Zar rfl) ?_
    refine Zhg (Zba rfl) ?_
    first|refine Zhg (Zl8 rfl) ?_|refine Zhg (Zce rfl) ?_
    refine Zhp rfl qH rfl ?_
    first|refine Zhg (Zat rfl) ?_|refine Zhg (Zar rfl) ?_
    first|refine Zhg (Zl6 rfl rfl) ?_|refine Zhg (Zcg rfl rfl) ?_
    refine Zfg rfl ((hag.imp qI)) ?_
    refine Zhz (cs := #[.int .i64 0, .int .i64 0, .int .i64 0, .int .i64 0, u8b 0#8, .int .i64 0]) rfl ?_; intro b7
    first|refine Zhy rfl rfl qR qZ (by first|rfl|exact oneM_u8 _|exact oneL_u8 _|exact fc_one _|exact fc_ones _|exact tcells_one _|(simp [oneC]; done)) qZ ?_|refine Zhx rfl rfl qR qZ (by first|rfl|exact oneM_u8 _|exact oneL_u8 _|exact fc_one _|exact fc_ones _|exact tcells_one _|(simp [oneC]; done)) qZ rfl ?_
    refine Zg3 ?_
    refine Ct.o ?_
    by_cases hat : f.at_ = ops
    · rw [if_pos hat] at hcn
      have hcf : (HostS.comes (fl.take (i + 1)) ops).foldl (HostS.spoil1 s page) (HostS.back s page 0) = HostS.spoil1 s page ((HostS.comes (fl.take i) ops).foldl (HostS.spoil1 s page) (HostS.back s page 0)) f := by rw [hcn, List.foldl_append]; rfl
      generalize (HostS.comes (fl.take i) ops).foldl (HostS.spoil1 s page) (HostS.back s page 0) = B at hbl hcf ⊢
      refine Ct.o ?_
      refine Zij ([cl b7 (fcells f).toArray 28, cl q (rcl pages size (some ⟨g, 0, none⟩) fl.length fc wa wl.length wc reg ops la log.length lc down) 93]) [5] (.q 0 (.q 2 (.q 3 (.q 4 (.r 1 (.r 5 (.q 6 .nil))))))) (by kernel_rfl) (by kernel_rfl) (Imp.arr qV) ?_
      first|refine Zim rfl (Zl8 rfl) ?_|refine Zim rfl (Zce rfl) ?_
      first|refine Zim rfl (Zav rfl) ?_|refine Zim rfl (Zar rfl) ?_
      refine Zim rfl (Zba rfl) ?_
      first|refine Zim rfl (Zl8 rfl) ?_|refine Zim rfl (Zce rfl) ?_
      refine Ziv rfl rfl qH rfl ?_
      refine Ziv rfl rfl qH rfl ?_
      refine Zim rfl (Zbs (b := (ops : Int)) rfl rfl) ?_
      refine Zi6 33 rfl (decide_eq_false ((fun h => h hat))) ?_
      refine Zik ?_
      refine Ct.o ?_
      refine Zgf rfl ?_
      refine Ct.o ?_
      by_cases k0 : f.kind = 0
      · by_cases kb : 0 ≤ f.byte
        · by_cases kl : f.byte < size
          · have hib : f.byte.toNat < size := by omega
            replace hcf := hcf.trans (show HostS.spoil1 s page B f = (B.set f.byte.toNat (B[f.byte.toNat]'(by omega) ^^^ f.by_)) from by
              unfold HostS.spoil1
              rw [if_pos k0, if_pos ⟨kb, by omega⟩, List.getD_eq_getElem?_getD, List.getElem?_eq_getElem (by omega)]; rfl)
            refine Zgt (fun F w H => own_some (n := size) (a := a) qH (by omega) H) ?_
            rintro ⟨gb, rfl⟩
            have hg2 : (B.map u8b)[f.byte.toNat]? = some (u8b (B[f.byte.toNat]'(by omega))) := by rw [List.getElem?_map, List.getElem?_eq_getElem (by omega)]; rfl
            refine Ct.o ?_
            refine Zgb ?_
            first|refine Zhg (Zl8 rfl) ?_|refine Zhg (Zce rfl) ?_
            refine Zhp rfl qH rfl ?_
            refine Zhg (Zbr (b := 0) rfl rfl) ?_
            refine Zhm 36 rfl (decide_eq_true (k0)) ?_
            first|refine Zhg (Zau rfl) ?_|refine Zhg (Zar rfl) ?_
            first|refine Zhi rfl ?_|refine Zhj rfl ?_|(refine Zhh rfl ?_; (first|refine Zhg (Zl8 rfl) ?_|refine Zhg (Zce rfl) ?_))
            first|refine Zhi rfl ?_|refine Zhj rfl ?_|(refine Zhh rfl ?_; (refine Zhp rfl qH rfl ?_))
            first|refine Zhi rfl ?_|refine Zhj rfl ?_|(refine Zhh rfl ?_; (refine Zhg (Zbq (b := 0) rfl rfl) ?_))
            refine Zhm 40 rfl (decide_eq_true (kb)) ?_
            first|refine Zhg (Zdz rfl rfl) ?_|refine Zhg (Zd0 rfl rfl) ?_|refine Zhg (Za8 rfl rfl) ?_|refine Zhg (Za9 rfl rfl) ?_|refine Zhg (Za6 rfl rfl) ?_|refine Zhg (Za7 rfl rfl) ?_
            first|refine Zhg (Zau rfl) ?_|refine Zhg (Zar rfl) ?_
            first|refine Zhi rfl ?_|refine Zhj rfl ?_|(refine Zhh rfl ?_; (first|refine Zhg (Zl8 rfl) ?_|refine Zhg (Zce rfl) ?_))
            first|refine Zhi rfl ?_|refine Zhj rfl ?_|(refine Zhh rfl ?_; (refine Zhp rfl qH rfl ?_))
            first|refine Zhi rfl ?_|refine Zhj rfl ?_|(refine Zhh rfl ?_; (first|refine Zhg (Zaw rfl) ?_|refine Zhg (Zar rfl) ?_))
            first|refine Zhi rfl ?_|refine Zhj rfl ?_|(refine Zhh rfl ?_; (first|refine Zhg (Zcr rfl) ?_|refine Zhg (Zct) ?_|refine Zhg (Zcu rfl) ?_))
            first|refine Zhi rfl ?_|refine Zhj rfl ?_|(refine Zhh rfl ?_; (refine Zhg (Zbn rfl rfl) ?_))
            refine Zhm 47 rfl (decide_eq_true (kl)) ?_
            first|refine Zhg (Zdz rfl rfl) ?_|refine Zhg (Zd0 rfl rfl) ?_|refine Zhg (Za8 rfl rfl) ?_|refine Zhg (Za9 rfl rfl) ?_|refine Zhg (Za6 rfl rfl) ?_|refine Zhg (Za7 rfl rfl) ?_
            refine Zg3 ?_
            refine Ct.o ?_
            refine Zge rfl ?_
            refine Ct.o ?_
            refine Zij ([cl b7 (fcells f).toArray 28, own 5 1 (.slice (some ⟨gb, 0, none⟩) size c) size (B.map u8b)]) [5, 6, 7, 9, 10] (.q 0 (.q 1 (.q 3 (.q 4 (.q 8 (.r 2 (.r 5 (.r 6 (.r 7 (.r 9 (.r 10 (.q 11 (.e 12 false .nil))))))))))))) (by kernel_rfl) (by kernel_rfl) (Imp.arr qV) ?_
            first|refine Zim rfl (Zaw rfl) ?_|refine Zim rfl (Zar rfl) ?_
            first|refine Zim rfl (Zl8 rfl) ?_|refine Zim rfl (Zce rfl) ?_
            first|refine Zim rfl (Zaw rfl) ?_|refine Zim rfl (Zar rfl) ?_
            first|refine Zim rfl (Zl8 rfl) ?_|refine Zim rfl (Zce rfl) ?_
            first|refine Zim rfl (Zl8 rfl) ?_|refine Zim rfl (Zce rfl) ?_
            refine Ziv rfl rfl qH rfl ?_
            refine Ziv rfl rfl qH rfl ?_
            first|refine Ziz rfl (Zl4 (n := f.byte.toNat) rfl (int_eq (by push_cast; omega))) ?_|refine Ziz rfl (Zl1 (n := f.byte.toNat) rfl (int_eq (by push_cast; omega))) ?_
            refine Zfh rfl rfl (((Rd.own (n := size) qH).at0 hib hg2)) ?_
            refine Ziv rfl rfl qH rfl ?_
            refine Ziz rfl (Zje rfl rfl) ?_
            first|refine Zim rfl (Zl4 (n := f.byte.toNat) rfl (int_eq (by push_cast; omega))) ?_|refine Zim rfl (Zl1 (n := f.byte.toNat) rfl (int_eq (by push_cast; omega))) ?_
            refine Ziq rfl ?_; refine Zm7 (u := u8b (B[f.byte.toNat]'(by omega) ^^^ f.by_)) (i := f.byte.toNat) (xs := B.map u8b) (ys := (B.set f.byte.toNat (B[f.byte.toNat]'(by omega) ^^^ f.by_)).map u8b) rfl rfl rfl qR hib (by rw [List.map_set]) ?_; refine Zg3 ⟨(fun hh => Bool.noConfusion hh), ?_⟩
            refine Zik ?_
            refine Ct.o ?_
            refine Zgb ?_
            first|refine Zhg (Zl8 rfl) ?_|refine Zhg (Zce rfl) ?_
            refine Zhp rfl qH rfl ?_
            refine Zhg (Zbr (b := 1) rfl rfl) ?_
            refine Zhn 63 rfl (decide_eq_false (by omega)) ?_
            refine Zg3 ?_
            refine Ct.o ?_
            refine Zgf rfl ?_
            refine Ct.o ?_
            refine Zgb ?_
            first|refine Zhg (Zl8 rfl) ?_|refine Zhg (Zce rfl) ?_
            refine Zhp rfl qH rfl ?_
            refine Zhg (Zbr (b := 2) rfl rfl) ?_
            refine Zhn 71 rfl (decide_eq_false (by omega)) ?_
            first|refine Zhg (Zau rfl) ?_|refine Zhg (Zar rfl) ?_
            first|refine Zhi rfl ?_|refine Zhj rfl ?_|(refine Zhh rfl ?_; (first|refine Zhg (Zav rfl) ?_|refine Zhg (Zar rfl) ?_))
            first|refine Zhi rfl ?_|refine Zhj rfl ?_|(refine Zhh rfl ?_; (first|refine Zhg (Zl8 rfl) ?_|refine Zhg (Zce rfl) ?_))
            first|refine Zhi rfl ?_|refine Zhj rfl ?_|(refine Zhh rfl ?_; (refine Zhp rfl qH rfl ?_))
            first|refine Zhi rfl ?_|refine Zhj rfl ?_
            first|refine Zhg (Zdz rfl rfl) ?_|refine Zhg (Zd0 rfl rfl) ?_|refine Zhg (Za8 rfl rfl) ?_|refine Zhg (Za9 rfl rfl) ?_|refine Zhg (Za6 rfl rfl) ?_|refine Zhg (Za7 rfl rfl) ?_
            refine Zg3 ?_
            refine Ct.o ?_
            refine Zgf rfl ?_
            refine Ct.o ?_
            refine Zgb ?_
            first|refine Zhg (Zat rfl) ?_|refine Zhg (Zar rfl) ?_
            first|refine Zhg (Zma (b := 1) rfl rfl) ?_|refine Zhg (Zbg rfl rfl) ?_
            first|refine Zhg (Zaz rfl) ?_|refine Zhg (Zas rfl) ?_
            refine Zg3 ?_
            refine Ct.o ?_
            exact Zgl (i + 1, _, c) qO (by dsimp only; omega) (by dsimp only; rw [hcf]; exact qI) ⟨rfl, rfl, trivial⟩
          · replace hcf := hcf.trans (show HostS.spoil1 s page B f = (B) from by unfold HostS.spoil1; rw [if_pos k0, if_neg (by omega)])
            refine Ct.o ?_
            refine Zgb ?_
            first|refine Zhg (Zl8 rfl) ?_|refine Zhg (Zce rfl) ?_
            refine Zhp rfl qH rfl ?_
            refine Zhg (Zbr (b := 0) rfl rfl) ?_
            refine Zhm 36 rfl (decide_eq_true (k0)) ?_
            first|refine Zhg (Zau rfl) ?_|refine Zhg (Zar rfl) ?_
            first|refine Zhi rfl ?_|refine Zhj rfl ?_|(refine Zhh rfl ?_; (first|refine Zhg (Zl8 rfl) ?_|refine Zhg (Zce rfl) ?_))
            first|refine Zhi rfl ?_|refine Zhj rfl ?_|(refine Zhh rfl ?_; (refine Zhp rfl qH rfl ?_))
            first|refine Zhi rfl ?_|refine Zhj rfl ?_|(refine Zhh rfl ?_; (refine Zhg (Zbq (b := 0) rfl rfl) ?_))
            refine Zhm 40 rfl (decide_eq_true (kb)) ?_
            first|refine Zhg (Zdz rfl rfl) ?_|refine Zhg (Zd0 rfl rfl) ?_|refine Zhg (Za8 rfl rfl) ?_|refine Zhg (Za9 rfl rfl) ?_|refine Zhg (Za6 rfl rfl) ?_|refine Zhg (Za7 rfl rfl) ?_
            first|refine Zhg (Zau rfl) ?_|refine Zhg (Zar rfl) ?_
            first|refine Zhi rfl ?_|refine Zhj rfl ?_|(refine Zhh rfl ?_; (first|refine Zhg (Zl8 rfl) ?_|refine Zhg (Zce rfl) ?_))
            first|refine Zhi rfl ?_|refine Zhj rfl ?_|(refine Zhh rfl ?_; (refine Zhp rfl qH rfl ?_))
            first|refine Zhi rfl ?_|refine Zhj rfl ?_|(refine Zhh rfl ?_; (first|refine Zhg (Zaw rfl) ?_|refine Zhg (Zar rfl) ?_))
            first|refine Zhi rfl ?_|refine Zhj rfl ?_|(refine Zhh rfl ?_; (first|refine Zhg (Zcr rfl) ?_|refine Zhg (Zct) ?_|refine Zhg (Zcu rfl) ?_))
            first|refine Zhi rfl ?_|refine Zhj rfl ?_|(refine Zhh rfl ?_; (refine Zhg (Zbn rfl rfl) ?_))
            refine Zhn 47 rfl (decide_eq_false (kl)) ?_
            first|refine Zhg (Zdz rfl rfl) ?_|refine Zhg (Zd0 rfl rfl) ?_|refine Zhg (Za8 rfl rfl) ?_|refine Zhg (Za9 rfl rfl) ?_|refine Zhg (Za6 rfl rfl) ?_|refine Zhg (Za7 rfl rfl) ?_
            refine Zg3 ?_
            refine Ct.o ?_
            refine Zgf rfl ?_
            refine Ct.o ?_
            refine Zgb ?_
            first|refine Zhg (Zl8 rfl) ?_|refine Zhg (Zce rfl) ?_
            refine Zhp rfl qH rfl ?_
            refine Zhg (Zbr (b := 1) rfl rfl) ?_
            refine Zhn 63 rfl (decide_eq_false (by omega)) ?_
            refine Zg3 ?_
            refine Ct.o ?_
            refine Zgf rfl ?_
            refine Ct.o ?_
            refine Zgb ?_
            first|refine Zhg (Zl8 rfl) ?_|refine Zhg (Zce rfl) ?_
            refine Zhp rfl qH rfl ?_
            refine Zhg (Zbr (b := 2) rfl rfl) ?_
            refine Zhn 71 rfl (decide_eq_false (by omega)) ?_
            first|refine Zhg (Zau rfl) ?_|refine Zhg (Zar rfl) ?_
            first|refine Zhi rfl ?_|refine Zhj rfl ?_|(refine Zhh rfl ?_; (first|refine Zhg (Zav rfl) ?_|refine Zhg (Zar rfl) ?_))
            first|refine Zhi rfl ?_|refine Zhj rfl ?_|(refine Zhh rfl ?_; (first|refine Zhg (Zl8 rfl) ?_|refine Zhg (Zce rfl) ?_))
            first|refine Zhi rfl ?_|refine Zhj rfl ?_|(refine Zhh rfl ?_; (refine Zhp rfl qH rfl ?_))
            first|refine Zhi rfl ?_|refine Zhj rfl ?_
            first|refine Zhg (Zdz rfl rfl) ?_|refine Zhg (Zd0 rfl rfl) ?_|refine Zhg (Za8 rfl rfl) ?_|refine Zhg (Za9 rfl rfl) ?_|refine Zhg (Za6 rfl rfl) ?_|refine Zhg (Za7 rfl rfl) ?_
            refine Zg3 ?_
            refine Ct.o ?_
            refine Zgf rfl ?_
            refine Ct.o ?_
            refine Zgb ?_
            first|refine Zhg (Zat rfl) ?_|refine Zhg (Zar rfl) ?_
            first|refine Zhg (Zma (b := 1) rfl rfl) ?_|refine Zhg (Zbg rfl rfl) ?_
            first|refine Zhg (Zaz rfl) ?_|refine Zhg (Zas rfl) ?_
            refine Zg3 ?_
            refine Ct.o ?_
            exact Zgl (i + 1, a, c) qO (by dsimp only; omega) (by dsimp only; rw [hcf]; exact qI) ⟨rfl, rfl, trivial⟩
        · replace hcf := hcf.trans (show HostS.spoil1 s page B f = (B) from by unfold HostS.spoil1; rw [if_pos k0, if_neg (by omega)])
          refine Ct.o ?_
          refine Zgb ?_
          first|refine Zhg (Zl8 rfl) ?_|refine Zhg (Zce rfl) ?_
          refine Zhp rfl qH rfl ?_
          refine Zhg (Zbr (b := 0) rfl rfl) ?_
          refine Zhm 36 rfl (decide_eq_true (k0)) ?_
          first|refine Zhg (Zau rfl) ?_|refine Zhg (Zar rfl) ?_
          first|refine Zhi rfl ?_|refine Zhj rfl ?_|(refine Zhh rfl ?_; (first|refine Zhg (Zl8 rfl) ?_|refine Zhg (Zce rfl) ?_))
          first|refine Zhi rfl ?_|refine Zhj rfl ?_|(refine Zhh rfl ?_; (refine Zhp rfl qH rfl ?_))
          first|refine Zhi rfl ?_|refine Zhj rfl ?_|(refine Zhh rfl ?_; (refine Zhg (Zbq (b := 0) rfl rfl) ?_))
          refine Zhn 40 rfl (decide_eq_false (kb)) ?_
          first|refine Zhg (Zdz rfl rfl) ?_|refine Zhg (Zd0 rfl rfl) ?_|refine Zhg (Za8 rfl rfl) ?_|refine Zhg (Za9 rfl rfl) ?_|refine Zhg (Za6 rfl rfl) ?_|refine Zhg (Za7 rfl rfl) ?_
          first|refine Zhg (Zau rfl) ?_|refine Zhg (Zar rfl) ?_
          first|refine Zhi rfl ?_|refine Zhj rfl ?_|(refine Zhh rfl ?_; (first|refine Zhg (Zl8 rfl) ?_|refine Zhg (Zce rfl) ?_))
          first|refine Zhi rfl ?_|refine Zhj rfl ?_|(refine Zhh rfl ?_; (refine Zhp rfl qH rfl ?_))
          first|refine Zhi rfl ?_|refine Zhj rfl ?_|(refine Zhh rfl ?_; (first|refine Zhg (Zaw rfl) ?_|refine Zhg (Zar rfl) ?_))
          first|refine Zhi rfl ?_|refine Zhj rfl ?_|(refine Zhh rfl ?_; (first|refine Zhg (Zcr rfl) ?_|refine Zhg (Zct) ?_|refine Zhg (Zcu rfl) ?_))
          first|refine Zhi rfl ?_|refine Zhj rfl ?_|(refine Zhh rfl ?_; (first|refine Zhg (Zmf rfl rfl) ?_|refine Zhg (Zbn rfl rfl) ?_))
          first|refine Zhg (Zdz rfl rfl) ?_|refine Zhg (Zd0 rfl rfl) ?_|refine Zhg (Za8 rfl rfl) ?_|refine Zhg (Za9 rfl rfl) ?_|refine Zhg (Za6 rfl rfl) ?_|refine Zhg (Za7 rfl rfl) ?_
          refine Zg3 ?_
          refine Ct.o ?_
          refine Zgf rfl ?_
          refine Ct.o ?_
          refine Zgb ?_
          first|refine Zhg (Zl8 rfl) ?_|refine Zhg (Zce rfl) ?_
          refine Zhp rfl qH rfl ?_
          refine Zhg (Zbr (b := 1) rfl rfl) ?_
          refine Zhn 63 rfl (decide_eq_false (by omega)) ?_
          refine Zg3 ?_
          refine Ct.o ?_
          refine Zgf rfl ?_
          refine Ct.o ?_
          refine Zgb ?_
          first|refine Zhg (Zl8 rfl) ?_|refine Zhg (Zce rfl) ?_
          refine Zhp rfl qH rfl ?_
          refine Zhg (Zbr (b := 2) rfl rfl) ?_
          refine Zhn 71 rfl (decide_eq_false (by omega)) ?_
          first|refine Zhg (Zau rfl) ?_|refine Zhg (Zar rfl) ?_
          first|refine Zhi rfl ?_|refine Zhj rfl ?_|(refine Zhh rfl ?_; (first|refine Zhg (Zav rfl) ?_|refine Zhg (Zar rfl) ?_))
          first|refine Zhi rfl ?_|refine Zhj rfl ?_|(refine Zhh rfl ?_; (first|refine Zhg (Zl8 rfl) ?_|refine Zhg (Zce rfl) ?_))
          first|refine Zhi rfl ?_|refine Zhj rfl ?_|(refine Zhh rfl ?_; (refine Zhp rfl qH rfl ?_))
          first|refine Zhi rfl ?_|refine Zhj rfl ?_
          first|refine Zhg (Zdz rfl rfl) ?_|refine Zhg (Zd0 rfl rfl) ?_|refine Zhg (Za8 rfl rfl) ?_|refine Zhg (Za9 rfl rfl) ?_|refine Zhg (Za6 rfl rfl) ?_|refine Zhg (Za7 rfl rfl) ?_
          refine Zg3 ?_
          refine Ct.o ?_
          refine Zgf rfl ?_
          refine Ct.o ?_
          refine Zgb ?_
          first|refine Zhg (Zat rfl) ?_|refine Zhg (Zar rfl) ?_
          first|refine Zhg (Zma (b := 1) rfl rfl) ?_|refine Zhg (Zbg rfl rfl) ?_
          first|refine Zhg (Zaz rfl) ?_|refine Zhg (Zas rfl) ?_
          refine Zg3 ?_
          refine Ct.o ?_
          exact Zgl (i + 1, a, c) qO (by dsimp only; omega) (by dsimp only; rw [hcf]; exact qI) ⟨rfl, rfl, trivial⟩
      · refine Ct.o ?_
        refine Zgb ?_
        first|refine Zhg (Zl8 rfl) ?_|refine Zhg (Zce rfl) ?_
        refine Zhp rfl qH rfl ?_
        refine Zhg (Zbr (b := 0) rfl rfl) ?_
        refine Zhn 36 rfl (decide_eq_false (k0)) ?_
        first|refine Zhg (Zau rfl) ?_|refine Zhg (Zar rfl) ?_
        first|refine Zhi rfl ?_|refine Zhj rfl ?_|(refine Zhh rfl ?_; (first|refine Zhg (Zl8 rfl) ?_|refine Zhg (Zce rfl) ?_))
        first|refine Zhi rfl ?_|refine Zhj rfl ?_|(refine Zhh rfl ?_; (refine Zhp rfl qH rfl ?_))
        first|refine Zhi rfl ?_|refine Zhj rfl ?_|(refine Zhh rfl ?_; (first|refine Zhg (Zmi (b := 0) rfl rfl) ?_|refine Zhg (Zbq rfl rfl) ?_))
        first|refine Zhg (Zdz rfl rfl) ?_|refine Zhg (Zd0 rfl rfl) ?_|refine Zhg (Za8 rfl rfl) ?_|refine Zhg (Za9 rfl rfl) ?_|refine Zhg (Za6 rfl rfl) ?_|refine Zhg (Za7 rfl rfl) ?_
        first|refine Zhg (Zau rfl) ?_|refine Zhg (Zar rfl) ?_
        first|refine Zhi rfl ?_|refine Zhj rfl ?_|(refine Zhh rfl ?_; (first|refine Zhg (Zl8 rfl) ?_|refine Zhg (Zce rfl) ?_))
        first|refine Zhi rfl ?_|refine Zhj rfl ?_|(refine Zhh rfl ?_; (refine Zhp rfl qH rfl ?_))
        first|refine Zhi rfl ?_|refine Zhj rfl ?_|(refine Zhh rfl ?_; (first|refine Zhg (Zaw rfl) ?_|refine Zhg (Zar rfl) ?_))
        first|refine Zhi rfl ?_|refine Zhj rfl ?_|(refine Zhh rfl ?_; (first|refine Zhg (Zcr rfl) ?_|refine Zhg (Zct) ?_|refine Zhg (Zcu rfl) ?_))
        first|refine Zhi rfl ?_|refine Zhj rfl ?_|(refine Zhh rfl ?_; (first|refine Zhg (Zmf rfl rfl) ?_|refine Zhg (Zbn rfl rfl) ?_))
        first|refine Zhg (Zdz rfl rfl) ?_|refine Zhg (Zd0 rfl rfl) ?_|refine Zhg (Za8 rfl rfl) ?_|refine Zhg (Za9 rfl rfl) ?_|refine Zhg (Za6 rfl rfl) ?_|refine Zhg (Za7 rfl rfl) ?_
        refine Zg3 ?_
        refine Ct.o ?_
        refine Zgf rfl ?_
        refine Ct.o ?_
        by_cases k1 : f.kind = 1
        · replace hcf := hcf.trans (show HostS.spoil1 s page B f = (HostS.back s page f.back) from by unfold HostS.spoil1; rw [if_neg k0, if_pos k1])
          have hl2 := hLay page f.back ⟨hfi.b0, hfi.b1⟩
          refine Ct.o ?_
          refine Zgb ?_
          first|refine Zhg (Zl8 rfl) ?_|refine Zhg (Zce rfl) ?_
          refine Zhp rfl qH rfl ?_
          refine Zhg (Zbr (b := 1) rfl rfl) ?_
          refine Zhm 63 rfl (decide_eq_true (k1)) ?_
          refine Zg3 ?_
          refine Ct.o ?_
          refine Zge rfl ?_
          refine Ct.o ?_
          refine Zgb ?_
          first|refine Zhg (Zav rfl) ?_|refine Zhg (Zar rfl) ?_
          first|refine Zhg (Zat rfl) ?_|refine Zhg (Zar rfl) ?_
          first|refine Zhg (Zl8 rfl) ?_|refine Zhg (Zce rfl) ?_
          refine Zhp rfl qH rfl ?_
          refine Zh8 rfl (by kernel_rfl) (hl2) rfl qT ?_
          rintro _ _ ⟨a2, k2, rfl, rfl⟩
          refine Zg2 qA ?_
          first|refine Zhg (Za2 rfl) ?_|refine Zhg (Zas rfl) ?_
          refine Zg3 ?_
          refine Ct.o ?_
          refine Zgb ?_
          first|refine Zhg (Zl8 rfl) ?_|refine Zhg (Zce rfl) ?_
          refine Zhp rfl qH rfl ?_
          refine Zhg (Zbr (b := 2) rfl rfl) ?_
          refine Zhn 71 rfl (decide_eq_false (by omega)) ?_
          first|refine Zhg (Zau rfl) ?_|refine Zhg (Zar rfl) ?_
          first|refine Zhi rfl ?_|refine Zhj rfl ?_|(refine Zhh rfl ?_; (first|refine Zhg (Zav rfl) ?_|refine Zhg (Zar rfl) ?_))
          first|refine Zhi rfl ?_|refine Zhj rfl ?_|(refine Zhh rfl ?_; (first|refine Zhg (Zl8 rfl) ?_|refine Zhg (Zce rfl) ?_))
          first|refine Zhi rfl ?_|refine Zhj rfl ?_|(refine Zhh rfl ?_; (refine Zhp rfl qH rfl ?_))
          first|refine Zhi rfl ?_|refine Zhj rfl ?_
          first|refine Zhg (Zdz rfl rfl) ?_|refine Zhg (Zd0 rfl rfl) ?_|refine Zhg (Za8 rfl rfl) ?_|refine Zhg (Za9 rfl rfl) ?_|refine Zhg (Za6 rfl rfl) ?_|refine Zhg (Za7 rfl rfl) ?_
          refine Zg3 ?_
          refine Ct.o ?_
          refine Zgf rfl ?_
          refine Ct.o ?_
          refine Zgb ?_
          first|refine Zhg (Zat rfl) ?_|refine Zhg (Zar rfl) ?_
          first|refine Zhg (Zma (b := 1) rfl rfl) ?_|refine Zhg (Zbg rfl rfl) ?_
          first|refine Zhg (Zaz rfl) ?_|refine Zhg (Zas rfl) ?_
          refine Zg3 ?_
          refine Ct.o ?_
          exact Zgl (i + 1, a2, k2) qO (by dsimp only; omega) (by dsimp only; rw [hcf]; exact qI) ⟨rfl, rfl, trivial⟩
        · refine Ct.o ?_
          refine Zgb ?_
          first|refine Zhg (Zl8 rfl) ?_|refine Zhg (Zce rfl) ?_
          refine Zhp rfl qH rfl ?_
          refine Zhg (Zbr (b := 1) rfl rfl) ?_
          refine Zhn 63 rfl (decide_eq_false (k1)) ?_
          refine Zg3 ?_
          refine Ct.o ?_
          refine Zgf rfl ?_
          refine Ct.o ?_
          by_cases k2 : f.kind = 2
          · by_cases kt : 0 ≤ f.page ∧ f.page < pages
            · have kt2 : HostS.there s f.page := by unfold HostS.there; rw [hpg]; exact kt
              replace hcf := hcf.trans (show HostS.spoil1 s page B f = (HostS.back s f.page 0) from by unfold HostS.spoil1; rw [if_neg k0, if_neg k1, if_pos k2, if_pos kt2])
              have hl2 := hLay0 f.page
              refine Ct.o ?_
              refine Zgb ?_
              first|refine Zhg (Zl8 rfl) ?_|refine Zhg (Zce rfl) ?_
              refine Zhp rfl qH rfl ?_
              refine Zhg (Zbr (b := 2) rfl rfl) ?_
              refine Zhm 71 rfl (decide_eq_true (k2)) ?_
              first|refine Zhg (Zau rfl) ?_|refine Zhg (Zar rfl) ?_
              first|refine Zhi rfl ?_|refine Zhj rfl ?_|(refine Zhh rfl ?_; (first|refine Zhg (Zav rfl) ?_|refine Zhg (Zar rfl) ?_))
              first|refine Zhi rfl ?_|refine Zhj rfl ?_|(refine Zhh rfl ?_; (first|refine Zhg (Zl8 rfl) ?_|refine Zhg (Zce rfl) ?_))
              first|refine Zhi rfl ?_|refine Zhj rfl ?_|(refine Zhh rfl ?_; (refine Zhp rfl qH rfl ?_))
              first|refine Zhi rfl ?_|refine Zhj rfl ?_|(refine Zhh rfl ?_; (refine Zh8 rfl (by kernel_rfl) (rThere_x f.page) rfl qT ?_); (rintro _ _ ⟨rfl, rfl⟩); (refine Zg2 qA ?_))
              refine Zhm 76 rfl (decide_eq_true (kt)) ?_
              first|refine Zhg (Zdz rfl rfl) ?_|refine Zhg (Zd0 rfl rfl) ?_|refine Zhg (Za8 rfl rfl) ?_|refine Zhg (Za9 rfl rfl) ?_|refine Zhg (Za6 rfl rfl) ?_|refine Zhg (Za7 rfl rfl) ?_
              refine Zg3 ?_
              refine Ct.o ?_
              refine Zge rfl ?_
              refine Ct.o ?_
              refine Zgb ?_
              first|refine Zhg (Zav rfl) ?_|refine Zhg (Zar rfl) ?_
              first|refine Zhg (Zl8 rfl) ?_|refine Zhg (Zce rfl) ?_
              refine Zhp rfl qH rfl ?_
              refine Zh8 rfl (by kernel_rfl) (hl2) rfl qT ?_
              rintro _ _ ⟨a2, k3, rfl, rfl⟩
              refine Zg2 qA ?_
              first|refine Zhg (Za2 rfl) ?_|refine Zhg (Zas rfl) ?_
              refine Zg3 ?_
              refine Ct.o ?_
              refine Zgb ?_
              first|refine Zhg (Zat rfl) ?_|refine Zhg (Zar rfl) ?_
              first|refine Zhg (Zma (b := 1) rfl rfl) ?_|refine Zhg (Zbg rfl rfl) ?_
              first|refine Zhg (Zaz rfl) ?_|refine Zhg (Zas rfl) ?_
              refine Zg3 ?_
              refine Ct.o ?_
              exact Zgl (i + 1, a2, k3) qO (by dsimp only; omega) (by dsimp only; rw [hcf]; exact qI) ⟨rfl, rfl, trivial⟩
            · have kt2 : ¬ HostS.there s f.page := by unfold HostS.there; rw [hpg]; exact kt
              replace hcf := hcf.trans (show HostS.spoil1 s page B f = (B) from by unfold HostS.spoil1; rw [if_neg k0, if_neg k1, if_pos k2, if_neg kt2])
              refine Ct.o ?_
              refine Zgb ?_
              first|refine Zhg (Zl8 rfl) ?_|refine Zhg (Zce rfl) ?_
              refine Zhp rfl qH rfl ?_
              refine Zhg (Zbr (b := 2) rfl rfl) ?_
              refine Zhm 71 rfl (decide_eq_true (k2)) ?_
              first|refine Zhg (Zau rfl) ?_|refine Zhg (Zar rfl) ?_
              first|refine Zhi rfl ?_|refine Zhj rfl ?_|(refine Zhh rfl ?_; (first|refine Zhg (Zav rfl) ?_|refine Zhg (Zar rfl) ?_))
              first|refine Zhi rfl ?_|refine Zhj rfl ?_|(refine Zhh rfl ?_; (first|refine Zhg (Zl8 rfl) ?_|refine Zhg (Zce rfl) ?_))
              first|refine Zhi rfl ?_|refine Zhj rfl ?_|(refine Zhh rfl ?_; (refine Zhp rfl qH rfl ?_))
              first|refine Zhi rfl ?_|refine Zhj rfl ?_|(refine Zhh rfl ?_; (refine Zh8 rfl (by kernel_rfl) (rThere_x f.page) rfl qT ?_); (rintro _ _ ⟨rfl, rfl⟩); (refine Zg2 qA ?_))
              refine Zhn 76 rfl (decide_eq_false (kt)) ?_
              first|refine Zhg (Zdz rfl rfl) ?_|refine Zhg (Zd0 rfl rfl) ?_|refine Zhg (Za8 rfl rfl) ?_|refine Zhg (Za9 rfl rfl) ?_|refine Zhg (Za6 rfl rfl) ?_|refine Zhg (Za7 rfl rfl) ?_
              refine Zg3 ?_
              refine Ct.o ?_
              refine Zgf rfl ?_
              refine Ct.o ?_
              refine Zgb ?_
              first|refine Zhg (Zat rfl) ?_|refine Zhg (Zar rfl) ?_
              first|refine Zhg (Zma (b := 1) rfl rfl) ?_|refine Zhg (Zbg rfl rfl) ?_
              first|refine Zhg (Zaz rfl) ?_|refine Zhg (Zas rfl) ?_
              refine Zg3 ?_
              refine Ct.o ?_
              exact Zgl (i + 1, a, c) qO (by dsimp only; omega) (by dsimp only; rw [hcf]; exact qI) ⟨rfl, rfl, trivial⟩
          · replace hcf := hcf.trans (show HostS.spoil1 s page B f = (B) from by unfold HostS.spoil1; rw [if_neg k0, if_neg k1, if_neg k2])
            refine Ct.o ?_
            refine Zgb ?_
            first|refine Zhg (Zl8 rfl) ?_|refine Zhg (Zce rfl) ?_
            refine Zhp rfl qH rfl ?_
            refine Zhg (Zbr (b := 2) rfl rfl) ?_
            refine Zhn 71 rfl (decide_eq_false (k2)) ?_
            first|refine Zhg (Zau rfl) ?_|refine Zhg (Zar rfl) ?_
            first|refine Zhi rfl ?_|refine Zhj rfl ?_|(refine Zhh rfl ?_; (first|refine Zhg (Zav rfl) ?_|refine Zhg (Zar rfl) ?_))
            first|refine Zhi rfl ?_|refine Zhj rfl ?_|(refine Zhh rfl ?_; (first|refine Zhg (Zl8 rfl) ?_|refine Zhg (Zce rfl) ?_))
            first|refine Zhi rfl ?_|refine Zhj rfl ?_|(refine Zhh rfl ?_; (refine Zhp rfl qH rfl ?_))
            first|refine Zhi rfl ?_|refine Zhj rfl ?_
            first|refine Zhg (Zdz rfl rfl) ?_|refine Zhg (Zd0 rfl rfl) ?_|refine Zhg (Za8 rfl rfl) ?_|refine Zhg (Za9 rfl rfl) ?_|refine Zhg (Za6 rfl rfl) ?_|refine Zhg (Za7 rfl rfl) ?_
            refine Zg3 ?_
            refine Ct.o ?_
            refine Zgf rfl ?_
            refine Ct.o ?_
            refine Zgb ?_
            first|refine Zhg (Zat rfl) ?_|refine Zhg (Zar rfl) ?_
            first|refine Zhg (Zma (b := 1) rfl rfl) ?_|refine Zhg (Zbg rfl rfl) ?_
            first|refine Zhg (Zaz rfl) ?_|refine Zhg (Zas rfl) ?_
            refine Zg3 ?_
            refine Ct.o ?_
            exact Zgl (i + 1, a, c) qO (by dsimp only; omega) (by dsimp only; rw [hcf]; exact qI) ⟨rfl, rfl, trivial⟩
    · rw [if_neg hat, List.append_nil] at hcn
      refine Ct.o ?_
      refine Zij ([cl b7 (fcells f).toArray 28, cl q (rcl pages size (some ⟨g, 0, none⟩) fl.length fc wa wl.length wc reg ops la log.length lc down) 93]) [5] (.q 0 (.q 2 (.q 3 (.q 4 (.r 1 (.r 5 (.q 6 .nil))))))) (by kernel_rfl) (by kernel_rfl) (Imp.arr qV) ?_
      first|refine Zim rfl (Zl8 rfl) ?_|refine Zim rfl (Zce rfl) ?_
      first|refine Zim rfl (Zav rfl) ?_|refine Zim rfl (Zar rfl) ?_
      refine Zim rfl (Zba rfl) ?_
      first|refine Zim rfl (Zl8 rfl) ?_|refine Zim rfl (Zce rfl) ?_
      refine Ziv rfl rfl qH rfl ?_
      refine Ziv rfl rfl qH rfl ?_
      refine Zim rfl (Zbs (b := (ops : Int)) rfl rfl) ?_
      refine Zi5 33 rfl (decide_eq_true (hat)) ?_
      refine Zik ?_
      refine Ct.o ?_
      refine Zge rfl ?_
      refine Ct.o ?_
      refine Zgb ?_
      first|refine Zhg (Zat rfl) ?_|refine Zhg (Zar rfl) ?_
      first|refine Zhg (Zma (b := 1) rfl rfl) ?_|refine Zhg (Zbg rfl rfl) ?_
      first|refine Zhg (Zaz rfl) ?_|refine Zhg (Zas rfl) ?_
      refine Zg3 ?_
      refine Ct.o ?_
      exact Zgl (i + 1, a, c) qO (by dsimp only; omega) (by dsimp only; rw [hcn]; exact qI) ⟨rfl, rfl, trivial⟩
  · have hie : i = fl.length := by omega
    subst hie
    rw [List.take_length]
    refine Ct.o ?_
    refine Zgb ?_
    first|refine Zhg (Zaw rfl) ?_|refine Zhg (Zar rfl) ?_
    first|refine Zhg (Za2 rfl) ?_|refine Zhg (Zas rfl) ?_
    refine Zg3 ?_
    refine Ct.o ?_
    refine rx1 (Zhc rfl (Zg7)) ?_
    exact ⟨_, ⟨a, c, rfl, rfl⟩, qI⟩
end
end Go.Sl

/- the document's host (trystref11): Lies, Read, Ask, Raise, walked. -/
set_option maxHeartbeats 4000000
set_option maxRecDepth 10000
set_option linter.unusedVariables false
set_option linter.unusedSimpArgs false
namespace Go.Sl
open Go Go.Proofs
attribute [local irreducible] cl pt own old pur ex all den denOps denS xOps xC cX CX xthen xblk xcut xloop xgo xng retX resX Calls PV Rd Con
attribute [local irreducible] hostA HostS.spoilt HostS.back
abbrev refL (q : Nat) (s : HostS.HS) (fl : List HostS.Fault) (wl : List Wr) (fa : Option Addr) (fc : Nat) (wa : Option Addr) (wc : Nat) (la : Option Addr) (lc : Nat) : List Asrt :=
  [cl q (rcl s.pages s.size fa fl.length fc wa wl.length wc s.reg s.ops la s.log.length lc s.down) 93, own 28 6 (.slice fa fl.length fc) fl.length (fl.flatMap fcells), own 97 2 (.slice wa wl.length wc) wl.length (wl.flatMap wcell), star ownP (wl.map (·.2)), own 56 15 (.slice la s.log.length lc) s.log.length (s.log.flatMap tcells)]
/-- What is known of the document's host beside what it holds. -/
structure RefOk (s : HostS.HS) (fl : List HostS.Fault) (wl : List Wr) : Prop where
  ok : HostS.Ok s
  later : Later fl s
  lay : ∀ p, s.lay p = rowsW wl p
  len : ∀ e ∈ wl, e.2.2.2.length = s.size
  many : wl.length ≤ s.ops
  flen : fl.length * 48 ≤ 140737488351232
  fok : ∀ f ∈ fl, HostS.FOk f
theorem bef_is {s : HostS.HS} {fl : List HostS.Fault} (h : Later fl s) (k : Int) : fl.any (befF s.ops k) = (s.coming s.ops).any fun f => f.kind == k := by
  rw [h s.ops (by omega)]
  unfold HostS.comes
  rw [List.any_filter]
  congr 1
theorem bef3 {s : HostS.HS} {fl : List HostS.Fault} (h : Later fl s) : fl.any (befF s.ops 3) = HostS.before (s.coming s.ops) := bef_is h 3
theorem bef4 {s : HostS.HS} {fl : List HostS.Fault} (h : Later fl s) : fl.any (befF s.ops 4) = HostS.behind (s.coming s.ops) := bef_is h 4
theorem does_down {s : HostS.HS} {op page : Int} {b : HostS.Bytes} {act : HostS.HS → HostS.HS} (h : s.down = true) : HostS.does s op page b act = (s, 110) := by unfold HostS.does; rw [if_pos h]
theorem does_before {s : HostS.HS} {op page : Int} {b : HostS.Bytes} {act : HostS.HS → HostS.HS} (h : s.down = false) (h3 : HostS.before (s.coming s.ops) = true) : HostS.does s op page b act = ({ HostS.taken s with down := true }, 110) := by unfold HostS.does; rw [if_neg (by rw [h]; simp)]; dsimp only; rw [if_pos h3]
theorem does_behind {s : HostS.HS} {op page : Int} {b : HostS.Bytes} {act : HostS.HS → HostS.HS} (h : s.down = false) (h3 : HostS.before (s.coming s.ops) = false) (h4 : HostS.behind (s.coming s.ops) = true) : HostS.does s op page b act = ({ act (HostS.logged s op page b) with down := true }, 110) := by unfold HostS.does; rw [if_neg (by rw [h]; simp)]; dsimp only; rw [if_neg (by rw [h3]; simp), if_pos h4]
theorem does_fine {s : HostS.HS} {op page : Int} {b : HostS.Bytes} {act : HostS.HS → HostS.HS} (h : s.down = false) (h3 : HostS.before (s.coming s.ops) = false) (h4 : HostS.behind (s.coming s.ops) = false) : HostS.does s op page b act = (act (HostS.logged s op page b), 0) := by unfold HostS.does; rw [if_neg (by rw [h]; simp)]; dsimp only; rw [if_neg (by rw [h3]; simp), if_neg (by rw [h4]; simp)]
section
variable {q : Nat} {s : HostS.HS} {fl : List HostS.Fault} {wl : List Wr} {fc wc lc : Nat} {fa wa la : Option Addr}
theorem rLies_x (page : Int) (h : RefOk s fl wl) (hops : s.ops ≤ 3298534883328) : Con Try.prog 47 [hp q, .int .i64 page] (refL q s fl wl fa fc wa wc la lc) (fun r M => ∃ a c, r = .slice a (HostS.liesR s page).length c ∧ M = ownB a c (HostS.liesR s page) :: refL q s fl wl fa fc wa wc la lc) := by
  have hm := h.many
  by_cases ht : 0 ≤ page ∧ page < s.pages
  · have e : HostS.liesR s page = HostS.back s page 0 := if_pos ht
    have hl := back_len h.ok page 0
    have hx := rLay_x (q := q) (pages := s.pages) (size := s.size) (fc := fc) (wc := wc) (ops := s.ops) (lc := lc) (fa := fa) (wa := wa) (la := la) (reg := s.reg) (down := s.down) (fl := fl) (wl := wl) (log := s.log) page 0 (by omega) (by omega) h.ok.z1 h.len
    rw [layW_back h.lay] at hx
    rw [e]
    refine fn_x Try.func47 rfl rfl rfl Try.mixed (by kernel_rfl) ?_
    intro w0
    refine Ct.o ?_
    refine Zgb ?_
    first|refine Zhg (Za2 rfl) ?_|refine Zhg (Zas rfl) ?_
    refine Zg3 ?_
    refine Ct.o ?_
    refine Zgb ?_
    first|refine Zhg (Zav rfl) ?_|refine Zhg (Zar rfl) ?_
    first|refine Zhg (Zat rfl) ?_|refine Zhg (Zar rfl) ?_
    refine Zh8 rfl (by kernel_rfl) (rThere_x page) rfl qT ?_
    rintro _ _ ⟨rfl, rfl⟩
    refine Zg2 qA ?_
    refine Zhm 7 rfl (decide_eq_true (ht)) ?_
    refine Zhg (Zb0 rfl) ?_
    refine Zhn 8 rfl (rfl) ?_
    refine Zg3 ?_
    refine Ct.o ?_
    refine Zgf rfl ?_
    refine Ct.o ?_
    refine Zgb ?_
    first|refine Zhg (Zav rfl) ?_|refine Zhg (Zar rfl) ?_
    first|refine Zhg (Zat rfl) ?_|refine Zhg (Zar rfl) ?_
    refine Zh8 rfl (by kernel_rfl) (hx) rfl qT ?_
    rintro _ _ ⟨a, c, rfl, rfl⟩
    refine Zg2 qA ?_
    first|refine Zhg (Za2 rfl) ?_|refine Zhg (Zas rfl) ?_
    refine Zg3 ?_
    refine Ct.o ?_
    refine rx1 (Zhc rfl (Zg7)) ?_
    exact ⟨_, ⟨a, c, by rw [hl], rfl⟩, by unfold ownB; rw [hl]; exact qI⟩
  · have e : HostS.liesR s page = [] := if_neg ht
    rw [e]
    refine fn_x Try.func47 rfl rfl rfl Try.mixed (by kernel_rfl) ?_
    intro w0
    refine Ct.o ?_
    refine Zgb ?_
    first|refine Zhg (Za2 rfl) ?_|refine Zhg (Zas rfl) ?_
    refine Zg3 ?_
    refine Ct.o ?_
    refine Zgb ?_
    first|refine Zhg (Zav rfl) ?_|refine Zhg (Zar rfl) ?_
    first|refine Zhg (Zat rfl) ?_|refine Zhg (Zar rfl) ?_
    refine Zh8 rfl (by kernel_rfl) (rThere_x page) rfl qT ?_
    rintro _ _ ⟨rfl, rfl⟩
    refine Zg2 qA ?_
    refine Zhn 7 rfl (decide_eq_false (ht)) ?_
    refine Zhg (Zb0 rfl) ?_
    refine Zhm 8 rfl (rfl) ?_
    refine Zg3 ?_
    refine Ct.o ?_
    refine Zge rfl ?_
    refine Ct.o ?_
    refine Zgb ?_
    first|refine Zhg (Za2 rfl) ?_|refine Zhg (Zas rfl) ?_
    refine Zg3 ?_
    refine Ct.o ?_
    refine rx1 (Zhc rfl (Zg7)) ?_
    exact ⟨_, ⟨none, 0, rfl, rfl⟩, (Imp.arr (N := refL q s fl wl fa fc wa wc la lc) qV).trans Imp.own_nil⟩
theorem rRead_x (page : Int) (h : RefOk s fl wl) (hops : s.ops < 3298534883328) : Con Try.prog 38 [hp q, .int .i64 page] (refL q s fl wl fa fc wa wc la lc) (fun r M => ∃ a c la' lc', r = .tuple #[.slice a (HostS.readR s page).1.length c, nvv (HostS.readR s page).2.1] ∧ M = ownB a c (HostS.readR s page).1 :: refL q (HostS.readR s page).2.2 fl wl fa fc wa wc la' lc') := by
  have hm := h.many
  have hfl := h.flen
  have hll := h.ok.log
  by_cases ht : 0 ≤ page ∧ page < s.pages
  · have e : HostS.readR s page = if (HostS.does s 0 page [] id).2 = 0 then (HostS.spoilt s page (s.coming s.ops), 0, (HostS.does s 0 page [] id).1) else ([], (HostS.does s 0 page [] id).2, (HostS.does s 0 page [] id).1) := if_pos ht
    have htt : HostS.touchOf s 0 page [] = ⟨0, page, s.size, List.replicate 12 0#8⟩ := rfl
    cases hdn : s.down with
    | true =>
      rw [e, does_down hdn, if_neg (by simp)]
      dsimp only
      refine fn_x Try.func38 rfl rfl rfl Try.mixed (by kernel_rfl) ?_
      intro w0
      refine Ct.o ?_
      refine Zgb ?_
      first|refine Zhg (Za2 rfl) ?_|refine Zhg (Zas rfl) ?_
      first|refine Zhg (Zaz rfl) ?_|refine Zhg (Zas rfl) ?_
      refine Zg3 ?_
      refine Ct.o ?_
      refine Zgb ?_
      first|refine Zhg (Zav rfl) ?_|refine Zhg (Zar rfl) ?_
      first|refine Zhg (Zat rfl) ?_|refine Zhg (Zar rfl) ?_
      refine Zh8 rfl (by kernel_rfl) (rThere_x page) rfl qT ?_
      rintro _ _ ⟨rfl, rfl⟩
      refine Zg2 qA ?_
      refine Zhm 9 rfl (decide_eq_true (ht)) ?_
      refine Zhg (Zb0 rfl) ?_
      refine Zhn 10 rfl (rfl) ?_
      refine Zg3 ?_
      refine Ct.o ?_
      refine Zgf rfl ?_
      refine Ct.o ?_
      rw [hdn]
      refine Ct.o ?_
      refine Zgb ?_
      first|refine Zhg (Zav rfl) ?_|refine Zhg (Zar rfl) ?_
      first|refine Zhg (Zat rfl) ?_|refine Zhg (Zar rfl) ?_
      first|refine Zhg (Zav rfl) ?_|refine Zhg (Zar rfl) ?_
      refine Zhg (Zba rfl) ?_
      first|refine Zhg (Zl8 rfl) ?_|refine Zhg (Zce rfl) ?_
      refine Zhp rfl qH rfl ?_
      refine Zhg (Zdm (cs := (tcells ⟨0, page, s.size, List.replicate 12 0#8⟩).toArray) rfl) ?_
      refine Zh8 rfl (by kernel_rfl) (rBegin_down ⟨0, page, s.size, List.replicate 12 0#8⟩) rfl qT ?_
      rintro _ _ ⟨rfl, rfl⟩
      refine Zg2 qA ?_
      refine Zhg (Zb0 rfl) ?_
      refine Zhm 19 rfl (rfl) ?_
      refine Zg3 ?_
      refine Ct.o ?_
      refine Zge rfl ?_
      refine Ct.o ?_
      refine Zgb ?_
      first|refine Zhg (Za2 rfl) ?_|refine Zhg (Zas rfl) ?_
      first|refine Zhg (Zaz rfl) ?_|refine Zhg (Zas rfl) ?_
      refine Zg3 ?_
      refine Ct.o ?_
      refine rx2 (Zhc rfl (Zg9 rfl (Zg7))) ?_
      exact ⟨_, ⟨none, 0, la, lc, rfl, rfl⟩, (Imp.arr (N := refL q s fl wl fa fc wa wc la lc) (by unfold refL; rw [hdn]; repeat (first|exact Arr.nil|exact Arr.stop|refine Arr.cons (by repeat constructor) ?_|refine Arr.skip ?_))).trans Imp.own_nil⟩
    | false =>
      cases h3 : HostS.before (s.coming s.ops) with
      | true =>
        rw [e, does_before hdn h3, if_neg (by simp)]
        dsimp only
        have hbg := rBegin_before (q := q) (pages := s.pages) (size := s.size) (fc := fc) (wc := wc) (ops := s.ops) (lc := lc) (fa := fa) (wa := wa) (la := la) (reg := s.reg) (fl := fl) (wl := wl) (log := s.log) ⟨0, page, s.size, List.replicate 12 0#8⟩ (by omega) (by omega) (by rw [bef3 h.later, h3])
        refine fn_x Try.func38 rfl rfl rfl Try.mixed (by kernel_rfl) ?_
        intro w0
        refine Ct.o ?_
        refine Zgb ?_
        first|refine Zhg (Za2 rfl) ?_|refine Zhg (Zas rfl) ?_
        first|refine Zhg (Zaz rfl) ?_|refine Zhg (Zas rfl) ?_
        refine Zg3 ?_
        refine Ct.o ?_
        refine Zgb ?_
        first|refine Zhg (Zav rfl) ?_|refine Zhg (Zar rfl) ?_
        first|refine Zhg (Zat rfl) ?_|refine Zhg (Zar rfl) ?_
        refine Zh8 rfl (by kernel_rfl) (rThere_x page) rfl qT ?_
        rintro _ _ ⟨rfl, rfl⟩
        refine Zg2 qA ?_
        refine Zhm 9 rfl (decide_eq_true (ht)) ?_
        refine Zhg (Zb0 rfl) ?_
        refine Zhn 10 rfl (rfl) ?_
        refine Zg3 ?_
        refine Ct.o ?_
        refine Zgf rfl ?_
        refine Ct.o ?_
        rw [hdn]
        refine Ct.o ?_
        refine Zgb ?_
        first|refine Zhg (Zav rfl) ?_|refine Zhg (Zar rfl) ?_
        first|refine Zhg (Zat rfl) ?_|refine Zhg (Zar rfl) ?_
        first|refine Zhg (Zav rfl) ?_|refine Zhg (Zar rfl) ?_
        refine Zhg (Zba rfl) ?_
        first|refine Zhg (Zl8 rfl) ?_|refine Zhg (Zce rfl) ?_
        refine Zhp rfl qH rfl ?_
        refine Zhg (Zdm (cs := (tcells ⟨0, page, s.size, List.replicate 12 0#8⟩).toArray) rfl) ?_
        refine Zh8 rfl (by kernel_rfl) (hbg) rfl qT ?_
        rintro _ _ ⟨rfl, rfl⟩
        refine Zg2 qA ?_
        refine Zhg (Zb0 rfl) ?_
        refine Zhm 19 rfl (rfl) ?_
        refine Zg3 ?_
        refine Ct.o ?_
        refine Zge rfl ?_
        refine Ct.o ?_
        refine Zgb ?_
        first|refine Zhg (Za2 rfl) ?_|refine Zhg (Zas rfl) ?_
        first|refine Zhg (Zaz rfl) ?_|refine Zhg (Zas rfl) ?_
        refine Zg3 ?_
        refine Ct.o ?_
        refine rx2 (Zhc rfl (Zg9 rfl (Zg7))) ?_
        exact ⟨_, ⟨none, 0, la, lc, rfl, rfl⟩, (Imp.arr (N := refL q { HostS.taken s with down := true } fl wl fa fc wa wc la lc) qV).trans Imp.own_nil⟩
      | false =>
        have hbg := rBegin_ok (q := q) (pages := s.pages) (size := s.size) (fc := fc) (wc := wc) (ops := s.ops) (lc := lc) (fa := fa) (wa := wa) (la := la) (reg := s.reg) (fl := fl) (wl := wl) (log := s.log) ⟨0, page, s.size, List.replicate 12 0#8⟩ (by simp) (by omega) (by omega) (by rw [bef3 h.later, h3])
        have hsp := fun la lc => rSpoilt_x (q := q) (pages := s.pages) (size := s.size) (fc := fc) (wc := wc) (ops := s.ops) (lc := lc) (fa := fa) (wa := wa) (la := la) (reg := s.reg) (down := false) (fl := fl) (wl := wl) (log := s.log ++ [⟨0, page, s.size, List.replicate 12 0#8⟩]) s h.ok rfl rfl h.lay page (by omega) h.fok (by omega) h.len
        rw [← h.later s.ops (by omega)] at hsp
        have hsl : (HostS.spoilt s page (s.coming s.ops)).length = s.size := by unfold HostS.spoilt; exact spoil_len h.ok page _ _ (back_len h.ok page 0)
        have hen := fun la lc => rEnd_x (q := q) (pages := s.pages) (size := s.size) (fc := fc) (wc := wc) (ops := s.ops) (lc := lc) (fa := fa) (wa := wa) (la := la) (reg := s.reg) (down := false) (fl := fl) (wl := wl) (log := s.log ++ [⟨0, page, s.size, List.replicate 12 0#8⟩]) (by omega) (by omega)
        rw [bef4 h.later] at hen
        cases h4 : HostS.behind (s.coming s.ops) with
        | true =>
          rw [e, does_behind hdn h3 h4, if_neg (by simp)]
          dsimp only [id]
          rw [h4] at hen
          refine fn_x Try.func38 rfl rfl rfl Try.mixed (by kernel_rfl) ?_
          intro w0
          refine Ct.o ?_
          refine Zgb ?_
          first|refine Zhg (Za2 rfl) ?_|refine Zhg (Zas rfl) ?_
          first|refine Zhg (Zaz rfl) ?_|refine Zhg (Zas rfl) ?_
          refine Zg3 ?_
          refine Ct.o ?_
          refine Zgb ?_
          first|refine Zhg (Zav rfl) ?_|refine Zhg (Zar rfl) ?_
          first|refine Zhg (Zat rfl) ?_|refine Zhg (Zar rfl) ?_
          refine Zh8 rfl (by kernel_rfl) (rThere_x page) rfl qT ?_
          rintro _ _ ⟨rfl, rfl⟩
          refine Zg2 qA ?_
          refine Zhm 9 rfl (decide_eq_true (ht)) ?_
          refine Zhg (Zb0 rfl) ?_
          refine Zhn 10 rfl (rfl) ?_
          refine Zg3 ?_
          refine Ct.o ?_
          refine Zgf rfl ?_
          refine Ct.o ?_
          rw [hdn]
          refine Ct.o ?_
          refine Zgb ?_
          first|refine Zhg (Zav rfl) ?_|refine Zhg (Zar rfl) ?_
          first|refine Zhg (Zat rfl) ?_|refine Zhg (Zar rfl) ?_
          first|refine Zhg (Zav rfl) ?_|refine Zhg (Zar rfl) ?_
          refine Zhg (Zba rfl) ?_
          first|refine Zhg (Zl8 rfl) ?_|refine Zhg (Zce rfl) ?_
          refine Zhp rfl qH rfl ?_
          refine Zhg (Zdm (cs := (tcells ⟨0, page, s.size, List.replicate 12 0#8⟩).toArray) rfl) ?_
          refine Zh8 rfl (by kernel_rfl) (hbg) rfl qT ?_
          rintro _ _ ⟨rfl, l1, m1, rfl⟩
          refine Zg2 qA ?_
          refine Zhg (Zb0 rfl) ?_
          refine Zhn 19 rfl (rfl) ?_
          refine Zg3 ?_
          refine Ct.o ?_
          refine Zgf rfl ?_
          refine Ct.o ?_
          refine Zgb ?_
          first|refine Zhg (Zav rfl) ?_|refine Zhg (Zar rfl) ?_
          first|refine Zhg (Zat rfl) ?_|refine Zhg (Zar rfl) ?_
          refine Zh8 rfl (by kernel_rfl) (hsp l1 m1) rfl qT ?_
          rintro _ _ ⟨a1, k1, rfl, rfl⟩
          refine Zg2 qA ?_
          first|refine Zhg (Za2 rfl) ?_|refine Zhg (Zas rfl) ?_
          refine Zg3 ?_
          refine Ct.o ?_
          refine Zgb ?_
          first|refine Zhg (Zav rfl) ?_|refine Zhg (Zar rfl) ?_
          refine Zh8 rfl (by kernel_rfl) (hen l1 m1) rfl qT ?_
          rintro _ _ ⟨rfl, rfl⟩
          refine Zg2 qA ?_
          refine Zhg (Zb0 rfl) ?_
          refine Zhm 25 rfl (rfl) ?_
          refine Zg3 ?_
          refine Ct.o ?_
          refine Zge rfl ?_
          refine Ct.o ?_
          refine Zgb ?_
          first|refine Zhg (Za2 rfl) ?_|refine Zhg (Zas rfl) ?_
          first|refine Zhg (Zaz rfl) ?_|refine Zhg (Zas rfl) ?_
          refine Zg3 ?_
          refine Ct.o ?_
          refine rx2 (Zhc rfl (Zg9 rfl (Zg7))) ?_
          exact ⟨_, ⟨none, 0, l1, m1, rfl, rfl⟩, (Imp.arr (N := refL q { HostS.logged s 0 page [] with down := true } fl wl fa fc wa wc l1 m1) qV).trans Imp.own_nil⟩
        | false =>
          rw [e, does_fine hdn h3 h4, if_pos rfl]
          dsimp only [id]
          rw [h4] at hen
          refine fn_x Try.func38 rfl rfl rfl Try.mixed (by kernel_rfl) ?_
          intro w0
          refine Ct.o ?_
          refine Zgb ?_
          first|refine Zhg (Za2 rfl) ?_|refine Zhg (Zas rfl) ?_
          first|refine Zhg (Zaz rfl) ?_|refine Zhg (Zas rfl) ?_
          refine Zg3 ?_
          refine Ct.o ?_
          refine Zgb ?_
          first|refine Zhg (Zav rfl) ?_|refine Zhg (Zar rfl) ?_
          first|refine Zhg (Zat rfl) ?_|refine Zhg (Zar rfl) ?_
          refine Zh8 rfl (by kernel_rfl) (rThere_x page) rfl qT ?_
          rintro _ _ ⟨rfl, rfl⟩
          refine Zg2 qA ?_
          refine Zhm 9 rfl (decide_eq_true (ht)) ?_
          refine Zhg (Zb0 rfl) ?_
          refine Zhn 10 rfl (rfl) ?_
          refine Zg3 ?_
          refine Ct.o ?_
          refine Zgf rfl ?_
          refine Ct.o ?_
          rw [hdn]
          refine Ct.o ?_
          refine Zgb ?_
          first|refine Zhg (Zav rfl) ?_|refine Zhg (Zar rfl) ?_
          first|refine Zhg (Zat rfl) ?_|refine Zhg (Zar rfl) ?_
          first|refine Zhg (Zav rfl) ?_|refine Zhg (Zar rfl) ?_
          refine Zhg (Zba rfl) ?_
          first|refine Zhg (Zl8 rfl) ?_|refine Zhg (Zce rfl) ?_
          refine Zhp rfl qH rfl ?_
          refine Zhg (Zdm (cs := (tcells ⟨0, page, s.size, List.replicate 12 0#8⟩).toArray) rfl) ?_
          refine Zh8 rfl (by kernel_rfl) (hbg) rfl qT ?_
          rintro _ _ ⟨rfl, l1, m1, rfl⟩
          refine Zg2 qA ?_
          refine Zhg (Zb0 rfl) ?_
          refine Zhn 19 rfl (rfl) ?_
          refine Zg3 ?_
          refine Ct.o ?_
          refine Zgf rfl ?_
          refine Ct.o ?_
          refine Zgb ?_
          first|refine Zhg (Zav rfl) ?_|refine Zhg (Zar rfl) ?_
          first|refine Zhg (Zat rfl) ?_|refine Zhg (Zar rfl) ?_
          refine Zh8 rfl (by kernel_rfl) (hsp l1 m1) rfl qT ?_
          rintro _ _ ⟨a1, k1, rfl, rfl⟩
          refine Zg2 qA ?_
          first|refine Zhg (Za2 rfl) ?_|refine Zhg (Zas rfl) ?_
          refine Zg3 ?_
          refine Ct.o ?_
          refine Zgb ?_
          first|refine Zhg (Zav rfl) ?_|refine Zhg (Zar rfl) ?_
          refine Zh8 rfl (by kernel_rfl) (hen l1 m1) rfl qT ?_
          rintro _ _ ⟨rfl, rfl⟩
          refine Zg2 qA ?_
          refine Zhg (Zb0 rfl) ?_
          refine Zhn 25 rfl (rfl) ?_
          refine Zg3 ?_
          refine Ct.o ?_
          refine Zgf rfl ?_
          refine Ct.o ?_
          refine Zgb ?_
          first|refine Zhg (Zaw rfl) ?_|refine Zhg (Zar rfl) ?_
          first|refine Zhg (Za2 rfl) ?_|refine Zhg (Zas rfl) ?_
          first|refine Zhg (Zaz rfl) ?_|refine Zhg (Zas rfl) ?_
          refine Zg3 ?_
          refine Ct.o ?_
          refine rx2 (Zhc rfl (Zg9 rfl (Zg7))) ?_
          refine ⟨_, ⟨a1, k1, l1, m1, by rw [hsl]; rfl, rfl⟩, ?_⟩
          unfold ownB refL
          rw [hsl, show (HostS.logged s 0 page []).down = false from hdn]
          exact qI
  · have e : HostS.readR s page = ([], 2, s) := if_neg ht
    rw [e]
    refine fn_x Try.func38 rfl rfl rfl Try.mixed (by kernel_rfl) ?_
    intro w0
    refine Ct.o ?_
    refine Zgb ?_
    first|refine Zhg (Za2 rfl) ?_|refine Zhg (Zas rfl) ?_
    first|refine Zhg (Zaz rfl) ?_|refine Zhg (Zas rfl) ?_
    refine Zg3 ?_
    refine Ct.o ?_
    refine Zgb ?_
    first|refine Zhg (Zav rfl) ?_|refine Zhg (Zar rfl) ?_
    first|refine Zhg (Zat rfl) ?_|refine Zhg (Zar rfl) ?_
    refine Zh8 rfl (by kernel_rfl) (rThere_x page) rfl qT ?_
    rintro _ _ ⟨rfl, rfl⟩
    refine Zg2 qA ?_
    refine Zhn 9 rfl (decide_eq_false (ht)) ?_
    refine Zhg (Zb0 rfl) ?_
    refine Zhm 10 rfl (rfl) ?_
    refine Zg3 ?_
    refine Ct.o ?_
    refine Zge rfl ?_
    refine Ct.o ?_
    refine Zgb ?_
    first|refine Zhg (Za2 rfl) ?_|refine Zhg (Zas rfl) ?_
    first|refine Zhg (Zaz rfl) ?_|refine Zhg (Zas rfl) ?_
    refine Zg3 ?_
    refine Ct.o ?_
    refine rx2 (Zhc rfl (Zg9 rfl (Zg7))) ?_
    exact ⟨_, ⟨none, 0, la, lc, rfl, rfl⟩, (Imp.arr (N := refL q s fl wl fa fc wa wc la lc) qV).trans Imp.own_nil⟩
end
end Go.Sl
