/- Parts of the proof, joined: RhE, RhF, RhG, RefD, RhH, RhI. -/
import Derived.Test.YthodgeekgpkieaaLawHostPlaysM0
import Derived.Test.YthodgeekgpkieaaLawHostPlaysM1
import Derived.Test.YthodgeekgpkieaaLawHostPlaysM2
import Derived.Test.YthodgeekgpkieaaLawHostPlaysM3
import Derived.Test.YthodgeekgpkieaaLawHostPlaysM4
/- the document's host (trystref11): Ask, Raise, walked. -/
set_option maxHeartbeats 4000000
set_option maxRecDepth 10000
set_option linter.unusedVariables false
set_option linter.unusedSimpArgs false
namespace Go.Sl
open Go Go.Proofs
attribute [local irreducible] cl pt own old pur ex all den denOps denS xOps xC cX CX xthen xblk xcut xloop xgo xng retX resX Calls PV Rd Con
attribute [local irreducible] hostA HostS.spoilt HostS.back
section
variable {q : Nat} {s : HostS.HS} {fl : List HostS.Fault} {wl : List Wr} {fc wc lc : Nat} {fa wa la : Option Addr}
theorem rAsk_x (h : RefOk s fl wl) (hops : s.ops < 3298534883328) : Con Try.prog 42 [hp q] (refL q s fl wl fa fc wa wc la lc) (fun r M => r = .tuple #[u64b (HostS.askR s).1, nvv (HostS.askR s).2.1] ∧ ∃ la' lc', M = refL q (HostS.askR s).2.2 fl wl fa fc wa wc la' lc') := by
  have hm := h.many
  have hfl := h.flen
  have hll := h.ok.log
  have hbg1 := rBegin_before (q := q) (pages := s.pages) (size := s.size) (fc := fc) (wc := wc) (ops := s.ops) (lc := lc) (fa := fa) (wa := wa) (la := la) (reg := s.reg) (fl := fl) (wl := wl) (log := s.log) ⟨2, 0, 8, List.replicate 12 0#8⟩ (by omega) (by omega)
  have hbg2 := rBegin_ok (q := q) (pages := s.pages) (size := s.size) (fc := fc) (wc := wc) (ops := s.ops) (lc := lc) (fa := fa) (wa := wa) (la := la) (reg := s.reg) (fl := fl) (wl := wl) (log := s.log) ⟨2, 0, 8, List.replicate 12 0#8⟩ (by simp) (by omega) (by omega)
  rw [bef3 h.later] at hbg1 hbg2
  have hen := fun la lc => rEnd_x (q := q) (pages := s.pages) (size := s.size) (fc := fc) (wc := wc) (ops := s.ops) (lc := lc) (fa := fa) (wa := wa) (la := la) (reg := s.reg) (fl := fl) (wl := wl) (log := s.log ++ [⟨2, 0, 8, List.replicate 12 0#8⟩]) (down := false) (by omega) (by omega)
  rw [bef4 h.later] at hen
  unfold HostS.askR
  dsimp only
  cases hdn : s.down with
  | true =>
    rw [does_down hdn, if_neg (by simp)]
    dsimp only
    unfold refL
    rw [hdn]
    refine fn_x Try.func42 rfl rfl rfl Try.mixed (by kernel_rfl) ?_
    intro w0
    refine Ct.o ?_
    refine Zgb ?_
    first|refine Zhg (Zaz rfl) ?_|refine Zhg (Zas rfl) ?_
    first|refine Zhg (Zaz rfl) ?_|refine Zhg (Zas rfl) ?_
    refine Zg3 ?_
    refine Ct.o ?_
    refine Zgb ?_
    first|refine Zhg (Zav rfl) ?_|refine Zhg (Zar rfl) ?_
    refine Zhg (Zdm (cs := (tcells ⟨2, 0, 8, List.replicate 12 0#8⟩).toArray) rfl) ?_
    refine Zh8 rfl (by kernel_rfl) (rBegin_down ⟨2, 0, 8, List.replicate 12 0#8⟩) rfl qT ?_
    rintro _ _ ⟨rfl, rfl⟩
    refine Zg2 qA ?_
    refine Zhg (Zb0 rfl) ?_
    refine Zhm 7 rfl (rfl) ?_
    first|refine Zhg (Zau rfl) ?_|refine Zhg (Zar rfl) ?_
    first|refine Zhi rfl ?_|refine Zhj rfl ?_|(refine Zhh rfl ?_; (first|refine Zhg (Zav rfl) ?_|refine Zhg (Zar rfl) ?_))
    first|refine Zhi rfl ?_|refine Zhj rfl ?_
    first|refine Zhi rfl ?_|refine Zhj rfl ?_|(refine Zhh rfl ?_; (first|refine Zhg (Zb1 rfl) ?_|refine Zhg (Zb0 rfl) ?_))
    first|refine Zhg (Zdz rfl rfl) ?_|refine Zhg (Zd0 rfl rfl) ?_|refine Zhg (Za8 rfl rfl) ?_|refine Zhg (Za9 rfl rfl) ?_|refine Zhg (Za6 rfl rfl) ?_|refine Zhg (Za7 rfl rfl) ?_
    refine Zg3 ?_
    refine Ct.o ?_
    refine Zge rfl ?_
    refine Ct.o ?_
    refine Zgb ?_
    first|refine Zhg (Zaz rfl) ?_|refine Zhg (Zas rfl) ?_
    first|refine Zhg (Zaz rfl) ?_|refine Zhg (Zas rfl) ?_
    refine Zg3 ?_
    refine Ct.o ?_
    refine rx2 (Zg9 rfl (Zg9 rfl (Zg7))) ?_
    exact ⟨_, ⟨rfl, la, lc, rfl⟩, qI⟩
  | false =>
    cases h3 : HostS.before (s.coming s.ops) with
    | true =>
      rw [does_before hdn h3, if_neg (by simp)]
      dsimp only
      unfold refL
      rw [hdn]
      refine fn_x Try.func42 rfl rfl rfl Try.mixed (by kernel_rfl) ?_
      intro w0
      refine Ct.o ?_
      refine Zgb ?_
      first|refine Zhg (Zaz rfl) ?_|refine Zhg (Zas rfl) ?_
      first|refine Zhg (Zaz rfl) ?_|refine Zhg (Zas rfl) ?_
      refine Zg3 ?_
      refine Ct.o ?_
      refine Zgb ?_
      first|refine Zhg (Zav rfl) ?_|refine Zhg (Zar rfl) ?_
      refine Zhg (Zdm (cs := (tcells ⟨2, 0, 8, List.replicate 12 0#8⟩).toArray) rfl) ?_
      refine Zh8 rfl (by kernel_rfl) (hbg1 h3) rfl qT ?_
      rintro _ _ ⟨rfl, rfl⟩
      refine Zg2 qA ?_
      refine Zhg (Zb0 rfl) ?_
      refine Zhm 7 rfl (rfl) ?_
      first|refine Zhg (Zau rfl) ?_|refine Zhg (Zar rfl) ?_
      first|refine Zhi rfl ?_|refine Zhj rfl ?_|(refine Zhh rfl ?_; (first|refine Zhg (Zav rfl) ?_|refine Zhg (Zar rfl) ?_))
      first|refine Zhi rfl ?_|refine Zhj rfl ?_
      first|refine Zhi rfl ?_|refine Zhj rfl ?_|(refine Zhh rfl ?_; (first|refine Zhg (Zb1 rfl) ?_|refine Zhg (Zb0 rfl) ?_))
      first|refine Zhg (Zdz rfl rfl) ?_|refine Zhg (Zd0 rfl rfl) ?_|refine Zhg (Za8 rfl rfl) ?_|refine Zhg (Za9 rfl rfl) ?_|refine Zhg (Za6 rfl rfl) ?_|refine Zhg (Za7 rfl rfl) ?_
      refine Zg3 ?_
      refine Ct.o ?_
      refine Zge rfl ?_
      refine Ct.o ?_
      refine Zgb ?_
      first|refine Zhg (Zaz rfl) ?_|refine Zhg (Zas rfl) ?_
      first|refine Zhg (Zaz rfl) ?_|refine Zhg (Zas rfl) ?_
      refine Zg3 ?_
      refine Ct.o ?_
      refine rx2 (Zg9 rfl (Zg9 rfl (Zg7))) ?_
      exact ⟨_, ⟨rfl, la, lc, rfl⟩, qI⟩
    | false =>
      cases h4 : HostS.behind (s.coming s.ops) with
      | true =>
        rw [does_behind hdn h3 h4, if_neg (by simp)]
        dsimp only [id]
        rw [h4] at hen
        unfold refL
        rw [hdn]
        refine fn_x Try.func42 rfl rfl rfl Try.mixed (by kernel_rfl) ?_
        intro w0
        refine Ct.o ?_
        refine Zgb ?_
        first|refine Zhg (Zaz rfl) ?_|refine Zhg (Zas rfl) ?_
        first|refine Zhg (Zaz rfl) ?_|refine Zhg (Zas rfl) ?_
        refine Zg3 ?_
        refine Ct.o ?_
        refine Zgb ?_
        first|refine Zhg (Zav rfl) ?_|refine Zhg (Zar rfl) ?_
        refine Zhg (Zdm (cs := (tcells ⟨2, 0, 8, List.replicate 12 0#8⟩).toArray) rfl) ?_
        refine Zh8 rfl (by kernel_rfl) (hbg2 h3) rfl qT ?_
        rintro _ _ ⟨rfl, l1, m1, rfl⟩
        refine Zg2 qA ?_
        refine Zhg (Zb0 rfl) ?_
        refine Zhn 7 rfl (rfl) ?_
        first|refine Zhg (Zau rfl) ?_|refine Zhg (Zar rfl) ?_
        first|refine Zhi rfl ?_|refine Zhj rfl ?_|(refine Zhh rfl ?_; (first|refine Zhg (Zav rfl) ?_|refine Zhg (Zar rfl) ?_))
        first|refine Zhi rfl ?_|refine Zhj rfl ?_|(refine Zhh rfl ?_; (refine Zh8 rfl (by kernel_rfl) (hen l1 m1) rfl qT ?_); (rintro _ _ ⟨rfl, rfl⟩); (refine Zg2 qA ?_))
        first|refine Zhi rfl ?_|refine Zhj rfl ?_|(refine Zhh rfl ?_; (refine Zhg (Zb0 rfl) ?_))
        refine Zhm 11 rfl (rfl) ?_
        first|refine Zhg (Zdz rfl rfl) ?_|refine Zhg (Zd0 rfl rfl) ?_|refine Zhg (Za8 rfl rfl) ?_|refine Zhg (Za9 rfl rfl) ?_|refine Zhg (Za6 rfl rfl) ?_|refine Zhg (Za7 rfl rfl) ?_
        refine Zg3 ?_
        refine Ct.o ?_
        refine Zge rfl ?_
        refine Ct.o ?_
        refine Zgb ?_
        first|refine Zhg (Zaz rfl) ?_|refine Zhg (Zas rfl) ?_
        first|refine Zhg (Zaz rfl) ?_|refine Zhg (Zas rfl) ?_
        refine Zg3 ?_
        refine Ct.o ?_
        refine rx2 (Zg9 rfl (Zg9 rfl (Zg7))) ?_
        exact ⟨_, ⟨rfl, l1, m1, rfl⟩, qI⟩
      | false =>
        rw [does_fine hdn h3 h4, if_pos rfl]
        dsimp only [id]
        rw [h4] at hen
        unfold refL
        rw [hdn, show (HostS.logged s 2 0 []).down = false from hdn]
        refine fn_x Try.func42 rfl rfl rfl Try.mixed (by kernel_rfl) ?_
        intro w0
        refine Ct.o ?_
        refine Zgb ?_
        first|refine Zhg (Zaz rfl) ?_|refine Zhg (Zas rfl) ?_
        first|refine Zhg (Zaz rfl) ?_|refine Zhg (Zas rfl) ?_
        refine Zg3 ?_
        refine Ct.o ?_
        refine Zgb ?_
        first|refine Zhg (Zav rfl) ?_|refine Zhg (Zar rfl) ?_
        refine Zhg (Zdm (cs := (tcells ⟨2, 0, 8, List.replicate 12 0#8⟩).toArray) rfl) ?_
        refine Zh8 rfl (by kernel_rfl) (hbg2 h3) rfl qT ?_
        rintro _ _ ⟨rfl, l1, m1, rfl⟩
        refine Zg2 qA ?_
        refine Zhg (Zb0 rfl) ?_
        refine Zhn 7 rfl (rfl) ?_
        first|refine Zhg (Zau rfl) ?_|refine Zhg (Zar rfl) ?_
        first|refine Zhi rfl ?_|refine Zhj rfl ?_|(refine Zhh rfl ?_; (first|refine Zhg (Zav rfl) ?_|refine Zhg (Zar rfl) ?_))
        first|refine Zhi rfl ?_|refine Zhj rfl ?_|(refine Zhh rfl ?_; (refine Zh8 rfl (by kernel_rfl) (hen l1 m1) rfl qT ?_); (rintro _ _ ⟨rfl, rfl⟩); (refine Zg2 qA ?_))
        first|refine Zhi rfl ?_|refine Zhj rfl ?_|(refine Zhh rfl ?_; (refine Zhg (Zb0 rfl) ?_))
        refine Zhn 11 rfl (rfl) ?_
        first|refine Zhg (Zdz rfl rfl) ?_|refine Zhg (Zd0 rfl rfl) ?_|refine Zhg (Za8 rfl rfl) ?_|refine Zhg (Za9 rfl rfl) ?_|refine Zhg (Za6 rfl rfl) ?_|refine Zhg (Za7 rfl rfl) ?_
        refine Zg3 ?_
        refine Ct.o ?_
        refine Zgf rfl ?_
        refine Ct.o ?_
        refine Zgb ?_
        first|refine Zhg (Zav rfl) ?_|refine Zhg (Zar rfl) ?_
        refine Zhg (Zba rfl) ?_
        first|refine Zhg (Zl8 rfl) ?_|refine Zhg (Zce rfl) ?_
        refine Zhp rfl qH rfl ?_
        first|refine Zhg (Zaz rfl) ?_|refine Zhg (Zas rfl) ?_
        first|refine Zhg (Zaz rfl) ?_|refine Zhg (Zas rfl) ?_
        refine Zg3 ?_
        refine Ct.o ?_
        refine rx2 (Zg9 rfl (Zg9 rfl (Zg7))) ?_
        exact ⟨_, ⟨rfl, l1, m1, rfl⟩, qI⟩
theorem rRaise_x (v : BitVec 64) (h : RefOk s fl wl) (hops : s.ops < 3298534883328) : Con Try.prog 43 [hp q, u64b v] (refL q s fl wl fa fc wa wc la lc) (fun r M => r = nvv (HostS.raiseR s v).1 ∧ ∃ la' lc', M = refL q (HostS.raiseR s v).2 fl wl fa fc wa wc la' lc') := by
  have hm := h.many
  have hfl := h.flen
  have hll := h.ok.log
  have hbg1 := rBegin_before (q := q) (pages := s.pages) (size := s.size) (fc := fc) (wc := wc) (ops := s.ops) (lc := lc) (fa := fa) (wa := wa) (la := la) (reg := s.reg) (fl := fl) (wl := wl) (log := s.log) ⟨3, 0, 8, List.replicate 12 0#8⟩ (by omega) (by omega)
  have hbg2 := rBegin_ok (q := q) (pages := s.pages) (size := s.size) (fc := fc) (wc := wc) (ops := s.ops) (lc := lc) (fa := fa) (wa := wa) (la := la) (reg := s.reg) (fl := fl) (wl := wl) (log := s.log) ⟨3, 0, 8, List.replicate 12 0#8⟩ (by simp) (by omega) (by omega)
  rw [bef3 h.later] at hbg1 hbg2
  unfold HostS.raiseR
  dsimp only
  cases hdn : s.down with
  | true =>
    rw [does_down hdn, if_neg (by simp)]
    dsimp only
    unfold refL
    rw [hdn]
    refine fn_x Try.func43 rfl rfl rfl Try.mixed (by kernel_rfl) ?_
    intro w0
    refine Ct.o ?_
    refine Zgb ?_
    first|refine Zhg (Zaz rfl) ?_|refine Zhg (Zas rfl) ?_
    refine Zg3 ?_
    refine Ct.o ?_
    refine Zgb ?_
    first|refine Zhg (Zav rfl) ?_|refine Zhg (Zar rfl) ?_
    refine Zhg (Zdm (cs := (tcells ⟨3, 0, 8, List.replicate 12 0#8⟩).toArray) rfl) ?_
    refine Zh8 rfl (by kernel_rfl) (rBegin_down ⟨3, 0, 8, List.replicate 12 0#8⟩) rfl qT ?_
    rintro _ _ ⟨rfl, rfl⟩
    refine Zg2 qA ?_
    refine Zhg (Zb0 rfl) ?_
    refine Zhm 9 rfl (rfl) ?_
    refine Zg3 ?_
    refine Ct.o ?_
    refine Zge rfl ?_
    refine Ct.o ?_
    refine Zgb ?_
    first|refine Zhg (Zaz rfl) ?_|refine Zhg (Zas rfl) ?_
    refine Zg3 ?_
    refine Ct.o ?_
    refine rx1 (Zg9 rfl (Zg7)) ?_
    exact ⟨_, ⟨rfl, la, lc, rfl⟩, qI⟩
  | false =>
    cases h3 : HostS.before (s.coming s.ops) with
    | true =>
      rw [does_before hdn h3, if_neg (by simp)]
      dsimp only
      unfold refL
      rw [hdn]
      refine fn_x Try.func43 rfl rfl rfl Try.mixed (by kernel_rfl) ?_
      intro w0
      refine Ct.o ?_
      refine Zgb ?_
      first|refine Zhg (Zaz rfl) ?_|refine Zhg (Zas rfl) ?_
      refine Zg3 ?_
      refine Ct.o ?_
      refine Zgb ?_
      first|refine Zhg (Zav rfl) ?_|refine Zhg (Zar rfl) ?_
      refine Zhg (Zdm (cs := (tcells ⟨3, 0, 8, List.replicate 12 0#8⟩).toArray) rfl) ?_
      refine Zh8 rfl (by kernel_rfl) (hbg1 h3) rfl qT ?_
      rintro _ _ ⟨rfl, rfl⟩
      refine Zg2 qA ?_
      refine Zhg (Zb0 rfl) ?_
      refine Zhm 9 rfl (rfl) ?_
      refine Zg3 ?_
      refine Ct.o ?_
      refine Zge rfl ?_
      refine Ct.o ?_
      refine Zgb ?_
      first|refine Zhg (Zaz rfl) ?_|refine Zhg (Zas rfl) ?_
      refine Zg3 ?_
      refine Ct.o ?_
      refine rx1 (Zg9 rfl (Zg7)) ?_
      exact ⟨_, ⟨rfl, la, lc, rfl⟩, qI⟩
    | false =>
      by_cases hv : s.reg.toNat < v.toNat
      · have hreg : HostS.bmax s.reg v = v := by unfold HostS.bmax; rw [if_pos (by omega)]
        have hen := fun la lc => rEnd_x (q := q) (pages := s.pages) (size := s.size) (fc := fc) (wc := wc) (ops := s.ops) (lc := lc) (fa := fa) (wa := wa) (la := la) (reg := v) (fl := fl) (wl := wl) (log := s.log ++ [⟨3, 0, 8, List.replicate 12 0#8⟩]) (down := false) (by omega) (by omega)
        rw [bef4 h.later] at hen
        cases h4 : HostS.behind (s.coming s.ops) with
        | true =>
          rw [does_behind hdn h3 h4, if_neg (by simp)]
          dsimp only [HostS.raised]
          rw [h4] at hen
          unfold refL
          rw [hdn, show HostS.bmax (HostS.logged s 3 0 []).reg v = v from hreg]
          refine fn_x Try.func43 rfl rfl rfl Try.mixed (by kernel_rfl) ?_
          intro w0
          refine Ct.o ?_
          refine Zgb ?_
          first|refine Zhg (Zaz rfl) ?_|refine Zhg (Zas rfl) ?_
          refine Zg3 ?_
          refine Ct.o ?_
          refine Zgb ?_
          first|refine Zhg (Zav rfl) ?_|refine Zhg (Zar rfl) ?_
          refine Zhg (Zdm (cs := (tcells ⟨3, 0, 8, List.replicate 12 0#8⟩).toArray) rfl) ?_
          refine Zh8 rfl (by kernel_rfl) (hbg2 h3) rfl qT ?_
          rintro _ _ ⟨rfl, l1, m1, rfl⟩
          refine Zg2 qA ?_
          refine Zhg (Zb0 rfl) ?_
          refine Zhn 9 rfl (rfl) ?_
          refine Zg3 ?_
          refine Ct.o ?_
          refine Zgf rfl ?_
          refine Ct.o ?_
          refine Zgb ?_
          first|refine Zhg (Zat rfl) ?_|refine Zhg (Zar rfl) ?_
          first|refine Zhg (Zav rfl) ?_|refine Zhg (Zar rfl) ?_
          refine Zhg (Zba rfl) ?_
          first|refine Zhg (Zl8 rfl) ?_|refine Zhg (Zce rfl) ?_
          refine Zhp rfl qH rfl ?_
          refine Zhg (Zlr (x := v) (y := s.reg) rfl rfl) ?_
          refine Zhm 15 rfl (decide_eq_true (hv)) ?_
          first|refine Zhg (Za0 rfl) ?_|refine Zhg (Zas rfl) ?_
          refine Zg3 ?_
          refine Ct.o ?_
          refine Zgb ?_
          first|refine Zhg (Zau rfl) ?_|refine Zhg (Zar rfl) ?_
          refine Zg3 ?_
          refine Ct.o ?_
          refine Zge rfl ?_
          refine Ct.o ?_
          refine Zgb ?_
          first|refine Zhg (Zav rfl) ?_|refine Zhg (Zar rfl) ?_
          first|refine Zhg (Zat rfl) ?_|refine Zhg (Zar rfl) ?_
          refine Zhg (Zba rfl) ?_
          first|refine Zhg (Zl8 rfl) ?_|refine Zhg (Zce rfl) ?_
          refine Zht rfl rfl qR qZ rfl ?_
          refine Zg3 ?_
          refine Ct.o ?_
          refine Zgb ?_
          first|refine Zhg (Zav rfl) ?_|refine Zhg (Zar rfl) ?_
          refine Zh8 rfl (by kernel_rfl) (hen l1 m1) rfl qT ?_
          rintro _ _ ⟨rfl, rfl⟩
          refine Zg2 qA ?_
          refine Zhg (Zb0 rfl) ?_
          refine Zhm 23 rfl (rfl) ?_
          refine Zg3 ?_
          refine Ct.o ?_
          refine Zge rfl ?_
          refine Ct.o ?_
          refine Zgb ?_
          first|refine Zhg (Zaz rfl) ?_|refine Zhg (Zas rfl) ?_
          refine Zg3 ?_
          refine Ct.o ?_
          refine rx1 (Zg9 rfl (Zg7)) ?_
          exact ⟨_, ⟨rfl, l1, m1, rfl⟩, qI⟩
        | false =>
          rw [does_fine hdn h3 h4, if_neg (by simp; exact hv)]
          dsimp only [HostS.raised]
          rw [h4] at hen
          unfold refL
          rw [hdn, show HostS.bmax (HostS.logged s 3 0 []).reg v = v from hreg, show (HostS.logged s 3 0 []).down = false from hdn]
          refine fn_x Try.func43 rfl rfl rfl Try.mixed (by kernel_rfl) ?_
          intro w0
          refine Ct.o ?_
          refine Zgb ?_
          first|refine Zhg (Zaz rfl) ?_|refine Zhg (Zas rfl) ?_
          refine Zg3 ?_
          refine Ct.o ?_
          refine Zgb ?_
          first|refine Zhg (Zav rfl) ?_|refine Zhg (Zar rfl) ?_
          refine Zhg (Zdm (cs := (tcells ⟨3, 0, 8, List.replicate 12 0#8⟩).toArray) rfl) ?_
          refine Zh8 rfl (by kernel_rfl) (hbg2 h3) rfl qT ?_
          rintro _ _ ⟨rfl, l1, m1, rfl⟩
          refine Zg2 qA ?_
          refine Zhg (Zb0 rfl) ?_
          refine Zhn 9 rfl (rfl) ?_
          refine Zg3 ?_
          refine Ct.o ?_
          refine Zgf rfl ?_
          refine Ct.o ?_
          refine Zgb ?_
          first|refine Zhg (Zat rfl) ?_|refine Zhg (Zar rfl) ?_
          first|refine Zhg (Zav rfl) ?_|refine Zhg (Zar rfl) ?_
          refine Zhg (Zba rfl) ?_
          first|refine Zhg (Zl8 rfl) ?_|refine Zhg (Zce rfl) ?_
          refine Zhp rfl qH rfl ?_
          refine Zhg (Zlr (x := v) (y := s.reg) rfl rfl) ?_
          refine Zhm 15 rfl (decide_eq_true (hv)) ?_
          first|refine Zhg (Za0 rfl) ?_|refine Zhg (Zas rfl) ?_
          refine Zg3 ?_
          refine Ct.o ?_
          refine Zgb ?_
          first|refine Zhg (Zau rfl) ?_|refine Zhg (Zar rfl) ?_
          refine Zg3 ?_
          refine Ct.o ?_
          refine Zge rfl ?_
          refine Ct.o ?_
          refine Zgb ?_
          first|refine Zhg (Zav rfl) ?_|refine Zhg (Zar rfl) ?_
          first|refine Zhg (Zat rfl) ?_|refine Zhg (Zar rfl) ?_
          refine Zhg (Zba rfl) ?_
          first|refine Zhg (Zl8 rfl) ?_|refine Zhg (Zce rfl) ?_
          refine Zht rfl rfl qR qZ rfl ?_
          refine Zg3 ?_
          refine Ct.o ?_
          refine Zgb ?_
          first|refine Zhg (Zav rfl) ?_|refine Zhg (Zar rfl) ?_
          refine Zh8 rfl (by kernel_rfl) (hen l1 m1) rfl qT ?_
          rintro _ _ ⟨rfl, rfl⟩
          refine Zg2 qA ?_
          refine Zhg (Zb0 rfl) ?_
          refine Zhn 23 rfl (rfl) ?_
          refine Zg3 ?_
          refine Ct.o ?_
          refine Zgf rfl ?_
          refine Ct.o ?_
          refine Zgb ?_
          first|refine Zhg (Zau rfl) ?_|refine Zhg (Zar rfl) ?_
          refine Zhg (Zb0 rfl) ?_
          refine Zhn 25 rfl (rfl) ?_
          refine Zg3 ?_
          refine Ct.o ?_
          refine Zgf rfl ?_
          refine Ct.o ?_
          refine Zgb ?_
          first|refine Zhg (Zaz rfl) ?_|refine Zhg (Zas rfl) ?_
          refine Zg3 ?_
          refine Ct.o ?_
          refine rx1 (Zg9 rfl (Zg7)) ?_
          exact ⟨_, ⟨rfl, l1, m1, rfl⟩, qI⟩
      · have hreg : HostS.bmax s.reg v = s.reg := by
          unfold HostS.bmax
          split
          · exact BitVec.eq_of_toNat_eq (by omega)
          · rfl
        have hen := fun la lc => rEnd_x (q := q) (pages := s.pages) (size := s.size) (fc := fc) (wc := wc) (ops := s.ops) (lc := lc) (fa := fa) (wa := wa) (la := la) (reg := s.reg) (fl := fl) (wl := wl) (log := s.log ++ [⟨3, 0, 8, List.replicate 12 0#8⟩]) (down := false) (by omega) (by omega)
        rw [bef4 h.later] at hen
        cases h4 : HostS.behind (s.coming s.ops) with
        | true =>
          rw [does_behind hdn h3 h4, if_neg (by simp)]
          dsimp only [HostS.raised]
          rw [h4] at hen
          unfold refL
          rw [hdn, show HostS.bmax (HostS.logged s 3 0 []).reg v = s.reg from hreg]
          refine fn_x Try.func43 rfl rfl rfl Try.mixed (by kernel_rfl) ?_
          intro w0
          refine Ct.o ?_
          refine Zgb ?_
          first|refine Zhg (Zaz rfl) ?_|refine Zhg (Zas rfl) ?_
          refine Zg3 ?_
          refine Ct.o ?_
          refine Zgb ?_
          first|refine Zhg (Zav rfl) ?_|refine Zhg (Zar rfl) ?_
          refine Zhg (Zdm (cs := (tcells ⟨3, 0, 8, List.replicate 12 0#8⟩).toArray) rfl) ?_
          refine Zh8 rfl (by kernel_rfl) (hbg2 h3) rfl qT ?_
          rintro _ _ ⟨rfl, l1, m1, rfl⟩
          refine Zg2 qA ?_
          refine Zhg (Zb0 rfl) ?_
          refine Zhn 9 rfl (rfl) ?_
          refine Zg3 ?_
          refine Ct.o ?_
          refine Zgf rfl ?_
          refine Ct.o ?_
          refine Zgb ?_
          first|refine Zhg (Zat rfl) ?_|refine Zhg (Zar rfl) ?_
          first|refine Zhg (Zav rfl) ?_|refine Zhg (Zar rfl) ?_
          refine Zhg (Zba rfl) ?_
          first|refine Zhg (Zl8 rfl) ?_|refine Zhg (Zce rfl) ?_
          refine Zhp rfl qH rfl ?_
          refine Zhg (Zlr (x := v) (y := s.reg) rfl rfl) ?_
          refine Zhn 15 rfl (decide_eq_false (hv)) ?_
          first|refine Zhg (Za0 rfl) ?_|refine Zhg (Zas rfl) ?_
          refine Zg3 ?_
          refine Ct.o ?_
          refine Zgb ?_
          first|refine Zhg (Zau rfl) ?_|refine Zhg (Zar rfl) ?_
          refine Zg3 ?_
          refine Ct.o ?_
          refine Zgf rfl ?_
          refine Ct.o ?_
          refine Zgb ?_
          first|refine Zhg (Zav rfl) ?_|refine Zhg (Zar rfl) ?_
          refine Zh8 rfl (by kernel_rfl) (hen l1 m1) rfl qT ?_
          rintro _ _ ⟨rfl, rfl⟩
          refine Zg2 qA ?_
          refine Zhg (Zb0 rfl) ?_
          refine Zhm 23 rfl (rfl) ?_
          refine Zg3 ?_
          refine Ct.o ?_
          refine Zge rfl ?_
          refine Ct.o ?_
          refine Zgb ?_
          first|refine Zhg (Zaz rfl) ?_|refine Zhg (Zas rfl) ?_
          refine Zg3 ?_
          refine Ct.o ?_
          refine rx1 (Zg9 rfl (Zg7)) ?_
          exact ⟨_, ⟨rfl, l1, m1, rfl⟩, qI⟩
        | false =>
          rw [does_fine hdn h3 h4, if_pos ⟨rfl, hv⟩]
          dsimp only [HostS.raised]
          rw [h4] at hen
          unfold refL
          rw [hdn, show HostS.bmax (HostS.logged s 3 0 []).reg v = s.reg from hreg, show (HostS.logged s 3 0 []).down = false from hdn]
          refine fn_x Try.func43 rfl rfl rfl Try.mixed (by kernel_rfl) ?_
          intro w0
          refine Ct.o ?_
          refine Zgb ?_
          first|refine Zhg (Zaz rfl) ?_|refine Zhg (Zas rfl) ?_
          refine Zg3 ?_
          refine Ct.o ?_
          refine Zgb ?_
          first|refine Zhg (Zav rfl) ?_|refine Zhg (Zar rfl) ?_
          refine Zhg (Zdm (cs := (tcells ⟨3, 0, 8, List.replicate 12 0#8⟩).toArray) rfl) ?_
          refine Zh8 rfl (by kernel_rfl) (hbg2 h3) rfl qT ?_
          rintro _ _ ⟨rfl, l1, m1, rfl⟩
          refine Zg2 qA ?_
          refine Zhg (Zb0 rfl) ?_
          refine Zhn 9 rfl (rfl) ?_
          refine Zg3 ?_
          refine Ct.o ?_
          refine Zgf rfl ?_
          refine Ct.o ?_
          refine Zgb ?_
          first|refine Zhg (Zat rfl) ?_|refine Zhg (Zar rfl) ?_
          first|refine Zhg (Zav rfl) ?_|refine Zhg (Zar rfl) ?_
          refine Zhg (Zba rfl) ?_
          first|refine Zhg (Zl8 rfl) ?_|refine Zhg (Zce rfl) ?_
          refine Zhp rfl qH rfl ?_
          refine Zhg (Zlr (x := v) (y := s.reg) rfl rfl) ?_
          refine Zhn 15 rfl (decide_eq_false (hv)) ?_
          first|refine Zhg (Za0 rfl) ?_|refine Zhg (Zas rfl) ?_
          refine Zg3 ?_
          refine Ct.o ?_
          refine Zgb ?_
          first|refine Zhg (Zau rfl) ?_|refine Zhg (Zar rfl) ?_
          refine Zg3 ?_
          refine Ct.o ?_
          refine Zgf rfl ?_
          refine Ct.o ?_
          refine Zgb ?_
          first|refine Zhg (Zav rfl) ?_|refine Zhg (Zar rfl) ?_
          refine Zh8 rfl (by kernel_rfl) (hen l1 m1) rfl qT ?_
          rintro _ _ ⟨rfl, rfl⟩
          refine Zg2 qA ?_
          refine Zhg (Zb0 rfl) ?_
          refine Zhn 23 rfl (rfl) ?_
          refine Zg3 ?_
          refine Ct.o ?_
          refine Zgf rfl ?_
          refine Ct.o ?_
          refine Zgb ?_
          first|refine Zhg (Zau rfl) ?_|refine Zhg (Zar rfl) ?_
          refine Zhg (Zb0 rfl) ?_
          refine Zhm 25 rfl (rfl) ?_
          refine Zg3 ?_
          refine Ct.o ?_
          refine Zge rfl ?_
          refine Ct.o ?_
          refine Zgb ?_
          first|refine Zhg (Zaz rfl) ?_|refine Zhg (Zas rfl) ?_
          refine Zg3 ?_
          refine Ct.o ?_
          refine rx1 (Zg9 rfl (Zg7)) ?_
          exact ⟨_, ⟨rfl, l1, m1, rfl⟩, qI⟩
end
end Go.Sl

/- the document's host (trystref11): Write, walked; what is known of it stays known. -/
set_option maxHeartbeats 4000000
set_option maxRecDepth 10000
set_option linter.unusedVariables false
set_option linter.unusedSimpArgs false
namespace Go.Sl
open Go Go.Proofs
attribute [local irreducible] cl pt own old pur ex all den denOps denS xOps xC cX CX xthen xblk xcut xloop xgo xng retX resX Calls PV Rd Con
attribute [local irreducible] hostA HostS.spoilt HostS.back
theorem ok_logged {s : HostS.HS} (op page : Int) (b : HostS.Bytes) (h : HostS.Ok s) : HostS.Ok (HostS.logged s op page b) := by
  have h1 := ok_taken h
  exact ⟨h1.p0, h1.p1, h1.z0, h1.z1, h1.row, h1.many, by show (s.log ++ [_]).length ≤ s.ops + 1; rw [List.length_append]; have := h.log; simpa using this, h1.flt, h1.fln⟩
theorem ok_does {s : HostS.HS} (op page : Int) (b : HostS.Bytes) (act : HostS.HS → HostS.HS) (h : HostS.Ok s) (ha : HostS.Ok (HostS.logged s op page b) → HostS.Ok (act (HostS.logged s op page b))) : HostS.Ok (HostS.does s op page b act).1 := by
  unfold HostS.does
  split
  · exact h
  · dsimp only
    split
    · exact ok_down true (ok_taken h)
    · have h2 := ha (ok_logged op page b h)
      split
      · exact ok_down true h2
      · exact h2
theorem lay_does {s : HostS.HS} (op page : Int) (b : HostS.Bytes) (act : HostS.HS → HostS.HS) (ha : ∀ s, (act s).lay = s.lay ∧ (act s).size = s.size) : (HostS.does s op page b act).1.lay = s.lay ∧ (HostS.does s op page b act).1.size = s.size := by
  have h2 := ha (HostS.logged s op page b)
  unfold HostS.does
  split
  · exact ⟨rfl, rfl⟩
  · dsimp only
    split
    · exact ⟨rfl, rfl⟩
    · split
      · exact h2
      · exact h2
theorem ops_ge (s : HostS.HS) (op page : Int) (b : HostS.Bytes) (act : HostS.HS → HostS.HS) (ha : ∀ s, (act s).ops = s.ops) : s.ops ≤ (HostS.does s op page b act).1.ops := by
  unfold HostS.does
  split
  · exact Nat.le_refl _
  · dsimp only
    split
    · exact Nat.le_succ _
    · have : (act (HostS.logged s op page b)).ops = s.ops + 1 := by rw [ha]; rfl
      split
      · show s.ops ≤ (act (HostS.logged s op page b)).ops; omega
      · show s.ops ≤ (act (HostS.logged s op page b)).ops; omega
theorem refok_does {s : HostS.HS} {fl : List HostS.Fault} {wl : List Wr} (h : RefOk s fl wl) (op page : Int) (b : HostS.Bytes) (act : HostS.HS → HostS.HS) (ha : ∀ s, (act s).lay = s.lay ∧ (act s).size = s.size ∧ (act s).coming = s.coming ∧ (act s).ops = s.ops) (hk : HostS.Ok (HostS.logged s op page b) → HostS.Ok (act (HostS.logged s op page b))) : RefOk (HostS.does s op page b act).1 fl wl := by
  obtain ⟨l1, l2⟩ := lay_does (s := s) op page b act (fun s => ⟨(ha s).1, (ha s).2.1⟩)
  refine ⟨ok_does op page b act h.ok hk, later_does h.later op page b act (fun s => ⟨(ha s).2.2.1, (ha s).2.2.2⟩), fun p => by rw [l1]; exact h.lay p, fun e he => by rw [l2]; exact h.len e he, Nat.le_trans h.many (ops_ge s op page b act (fun s => (ha s).2.2.2)), h.flen, h.fok⟩
theorem refok_down {s : HostS.HS} {fl : List HostS.Fault} {wl : List Wr} (h : RefOk s fl wl) (d : Bool) : RefOk { s with down := d } fl wl := ⟨ok_down d h.ok, h.later, h.lay, h.len, h.many, h.flen, h.fok⟩
theorem refok_read {s : HostS.HS} {fl : List HostS.Fault} {wl : List Wr} (h : RefOk s fl wl) (page : Int) : RefOk (HostS.readR s page).2.2 fl wl := by
  have d := refok_does h 0 page [] id (fun _ => ⟨rfl, rfl, rfl, rfl⟩) (fun h => h)
  unfold HostS.readR
  split
  · dsimp only
    split
    · exact d
    · exact d
  · exact h
theorem refok_ask {s : HostS.HS} {fl : List HostS.Fault} {wl : List Wr} (h : RefOk s fl wl) : RefOk (HostS.askR s).2.2 fl wl := by
  have d := refok_does h 2 0 [] id (fun _ => ⟨rfl, rfl, rfl, rfl⟩) (fun h => h)
  unfold HostS.askR
  dsimp only
  split
  · exact d
  · exact d
theorem refok_raise {s : HostS.HS} {fl : List HostS.Fault} {wl : List Wr} (h : RefOk s fl wl) (v : BitVec 64) : RefOk (HostS.raiseR s v).2 fl wl :=
  refok_does h 3 0 [] (HostS.raised v) (fun _ => ⟨rfl, rfl, rfl, rfl⟩) (fun h => ok_raised v h)
/-- Behind a write that was done. -/
theorem refok_wrote {s s' : HostS.HS} {fl : List HostS.Fault} {wl : List Wr} (h : RefOk s fl wl) (page : Int) (b : HostS.Bytes) (p : Part) (hp : p.2.2 = b) (hb : b.length = s.size) (h1 : HostS.Ok s') (h2 : s'.lay = HostS.setF s.lay page (s.lay page ++ [b])) (h3 : s'.size = s.size) (h4 : s'.ops = s.ops + 1) (h5 : s'.coming = HostS.setF s.coming s.ops []) : RefOk s' fl (wl ++ [(page, p)]) := by
  refine ⟨h1, ?_, ?_, ?_, by rw [List.length_append, h4]; have := h.many; simpa using this, h.flen, h.fok⟩
  · intro k hk
    rw [h4] at hk
    rw [h5]
    unfold HostS.setF
    rw [if_neg (by omega)]
    exact h.later k (by omega)
  · intro k
    rw [h2, rowsW_app, ← h.lay k]
    unfold HostS.setF rowsW
    by_cases e : k = page
    · subst e; simp [hp]
    · have e2 : ¬ page = k := fun hh => e hh.symm
      simp [e, e2]
  · intro e he
    rw [h3]
    rw [List.mem_append, List.mem_singleton] at he
    rcases he with he|rfl
    · exact h.len e he
    · rw [hp]; exact hb
def headAt (b : List Byte) (k : Nat) : List Byte := b.take k ++ List.replicate (12 - k) 0#8
theorem headAt_set (b : List Byte) (k : Nat) (hk : k < 12) (hb : k < b.length) : (headAt b k).set k b[k] = headAt b (k + 1) := by
  unfold headAt
  rw [List.set_append_right _ _ (by simp; omega), List.length_take, Nat.min_eq_left (by omega), Nat.sub_self, show 12 - k = (12 - (k + 1)) + 1 by omega, List.replicate_succ, List.set_cons_zero, List.take_succ_eq_append_getElem hb, List.append_assoc]; rfl
theorem headAt_end (b : List Byte) (k : Nat) (hk : k ≤ 12) (hb : k ≤ b.length) (h : ¬ (k < 12 ∧ k < b.length)) : headAt b k = HostS.headOf b := by
  unfold headAt HostS.headOf
  by_cases h12 : k = 12
  · subst h12
    rw [show 12 - b.length = 0 by omega]
  · have : k = b.length := by omega
    subst this
    rw [List.take_length, List.take_of_length_le (by omega)]
theorem headAt_len (b : List Byte) (k : Nat) (hk : k ≤ 12) (hb : k ≤ b.length) : (headAt b k).length = 12 := by simp [headAt]; omega
theorem tcells_set (op page len : Int) (x : Byte) (h : List Byte) (k : Nat) : (tcells ⟨op, page, len, h⟩).toArray.setIfInBounds (3 + k) (u8b x) = (tcells ⟨op, page, len, h.set k x⟩).toArray := by
  apply Array.ext'
  rw [Array.toList_setIfInBounds]
  show ([Value.int .i64 op, .int .i64 page, .int .i64 len] ++ h.map u8b).set (3 + k) (u8b x) = [Value.int .i64 op, .int .i64 page, .int .i64 len] ++ (h.set k x).map u8b
  rw [List.set_append_right _ _ (by simp)]
  simp
section
variable {q : Nat} {s : HostS.HS} {fl : List HostS.Fault} {wl : List Wr} {fc wc lc : Nat} {fa wa la : Option Addr}
theorem rWrite_x {L : List Asrt} (page : Int) {vb : Value} {b : List Byte} (hb : Bs L vb b) (hbl : b.length ≤ 140737488351232) (h : RefOk s fl wl) (hops : s.ops < 3298534883328) :
    Con Try.prog 40 [hp q, .int .i64 page, vb] (refL q s fl wl fa fc wa wc la lc ++ L) (fun r M => r = nvv (HostS.writeR s page b).1 ∧ ∃ wl' wa' wc' la' lc', RefOk (HostS.writeR s page b).2 fl wl' ∧ M = refL q (HostS.writeR s page b).2 fl wl' fa fc wa' wc' la' lc' ++ L) := by
  have hm := h.many
  have hfl := h.flen
  have hll := h.ok.log
  have hz1 := h.ok.z1
  refine Con.get (fun w0 w F H => (hb.imp (Imp.arr (M := refL q s fl wl fa fc wa wc la lc ++ L) qV)).sh _ _ _ H) ?_
  rintro ⟨ba, bc, rfl, _, _⟩
  unfold HostS.writeR
  unfold refL
  simp only [List.cons_append, List.nil_append]
  by_cases ht : 0 ≤ page ∧ page < s.pages
  · rw [if_pos (show HostS.there s page from ht)]
    by_cases hsz : b.length = s.size
    · rw [if_pos hsz]
      dsimp only
      have hwr := fun hh => ok_wrote page 1 b hsz h.ok hh
      have hbg1 := rBegin_before (q := q) (pages := s.pages) (size := s.size) (fc := fc) (wc := wc) (ops := s.ops) (lc := lc) (fa := fa) (wa := wa) (la := la) (reg := s.reg) (fl := fl) (wl := wl) (log := s.log) (⟨1, page, s.size, HostS.headOf b⟩ : HostS.Touch) (by omega) (by omega)
      have hbg2 := rBegin_ok (q := q) (pages := s.pages) (size := s.size) (fc := fc) (wc := wc) (ops := s.ops) (lc := lc) (fa := fa) (wa := wa) (la := la) (reg := s.reg) (fl := fl) (wl := wl) (log := s.log) (⟨1, page, s.size, HostS.headOf b⟩ : HostS.Touch) (headOf_len b) (by omega) (by omega)
      rw [bef3 h.later] at hbg1 hbg2
      refine fn_x Try.func40 rfl rfl rfl Try.mixed (by kernel_rfl) ?_
      intro w0
      refine Ct.o ?_
      refine Zgb ?_
      first|refine Zhg (Zaz rfl) ?_|refine Zhg (Zas rfl) ?_
      refine Zg3 ?_
      refine Ct.o ?_
      refine Zgb ?_
      first|refine Zhg (Zav rfl) ?_|refine Zhg (Zar rfl) ?_
      first|refine Zhg (Zat rfl) ?_|refine Zhg (Zar rfl) ?_
      refine Zh8 rfl (by kernel_rfl) (rThere_x page) rfl qT ?_
      rintro _ _ ⟨rfl, rfl⟩
      refine Zg2 qA ?_
      refine Zhm 12 rfl (decide_eq_true (ht)) ?_
      refine Zhg (Zb0 rfl) ?_
      refine Zhn 13 rfl (rfl) ?_
      refine Zg3 ?_
      refine Ct.o ?_
      refine Zgf rfl ?_
      refine Ct.o ?_
      refine Zgb ?_
      first|refine Zhg (Zaw rfl) ?_|refine Zhg (Zar rfl) ?_
      first|refine Zhg (Zcr rfl) ?_|refine Zhg (Zct) ?_|refine Zhg (Zcu rfl) ?_
      first|refine Zhg (Zav rfl) ?_|refine Zhg (Zar rfl) ?_
      refine Zhg (Zba rfl) ?_
      first|refine Zhg (Zl8 rfl) ?_|refine Zhg (Zce rfl) ?_
      refine Zhp rfl qH rfl ?_
      first|refine Zhg (Zmk rfl rfl) ?_|refine Zhg (Zbs rfl rfl) ?_
      refine Zhn 20 rfl (decide_eq_false ((fun hh => hh hsz))) ?_
      refine Zg3 ?_
      refine Ct.o ?_
      refine Zgf rfl ?_
      refine Ct.o ?_
      refine Zgb ?_
      first|refine Zhg (Zat rfl) ?_|refine Zhg (Zar rfl) ?_
      first|refine Zhg (Zav rfl) ?_|refine Zhg (Zar rfl) ?_
      refine Zhg (Zba rfl) ?_
      first|refine Zhg (Zl8 rfl) ?_|refine Zhg (Zce rfl) ?_
      refine Zhp rfl qH rfl ?_
      refine Zhg (Zdm (cs := (tcells ⟨1, page, s.size, headAt b 0⟩).toArray) rfl) ?_
      refine Zhz (cs := #[.int .i64 0, .int .i64 0, .int .i64 0, u8b 0#8, u8b 0#8, u8b 0#8, u8b 0#8, u8b 0#8, u8b 0#8, u8b 0#8, u8b 0#8, u8b 0#8, u8b 0#8, u8b 0#8, u8b 0#8]) rfl ?_; intro b7
      first|refine Zhy rfl rfl qR qZ (by first|rfl|exact oneM_u8 _|exact oneL_u8 _|exact fc_one _|exact fc_ones _|exact tcells_one _|(simp [oneC]; done)) qZ ?_|refine Zhx rfl rfl qR qZ (by first|rfl|exact oneM_u8 _|exact oneL_u8 _|exact fc_one _|exact fc_ones _|exact tcells_one _|(simp [oneC]; done)) qZ rfl ?_
      refine Zg3 ?_
      refine Ct.o ?_
      refine Zgb ?_
      first|refine Zhg (Zaz rfl) ?_|refine Zhg (Zas rfl) ?_
      refine Zg3 ?_
      repeat (first|refine zA ?_|refine zB ?_|refine zD ?_|refine zE ?_|refine zF ?_|refine zG ?_|refine zH ?_|refine zI ?_|refine zJ ?_|refine zK ?_|refine zL ?_|refine zM rfl ?_|refine zN ?_|refine zO ?_|refine zP ?_|refine zQ ?_)
      refine Zgn [(8, 8), (27, 43)] (by kernel_rfl) (fun _ : Unit => True) (fun _ => cl b7 (tcells (⟨1, page, s.size, HostS.headOf b⟩ : HostS.Touch)).toArray 56 :: cl q (rcl s.pages s.size fa fl.length fc wa wl.length wc s.reg s.ops la s.log.length lc s.down) 93 :: own 28 6 (.slice fa fl.length fc) fl.length (fl.flatMap fcells) :: own 97 2 (.slice wa wl.length wc) wl.length (wl.flatMap wcell) :: star ownP (wl.map (·.2)) :: own 56 15 (.slice la s.log.length lc) s.log.length (s.log.flatMap tcells) :: L) (fun _ => []) ?_ ?_
      · refine Ct.o ?_
        refine Zgo [(8, 8), (27, 43)] (by kernel_rfl) (fun k : Nat => k ≤ 12 ∧ k ≤ b.length) (fun k => cl b7 (tcells ⟨1, page, s.size, headAt b k⟩).toArray 56 :: cl q (rcl s.pages s.size fa fl.length fc wa wl.length wc s.reg s.ops la s.log.length lc s.down) 93 :: own 28 6 (.slice fa fl.length fc) fl.length (fl.flatMap fcells) :: own 97 2 (.slice wa wl.length wc) wl.length (wl.flatMap wcell) :: star ownP (wl.map (·.2)) :: own 56 15 (.slice la s.log.length lc) s.log.length (s.log.flatMap tcells) :: L) (fun k => [(8, nvv k)]) (fun k => 12 - k) 0 ⟨by omega, Nat.zero_le _⟩ qI ⟨rfl, trivial⟩ ?_
        rintro k u ⟨hk12, hkb⟩
        have hsz15 : (tcells ⟨1, page, s.size, headAt b k⟩).toArray.size = 15 := by simp [tcells, headAt_len b k hk12 hkb]
        by_cases hk : k < 12
        · by_cases hkl : k < b.length
          · refine Ct.o ?_
            refine Zgb ?_
            first|refine Zhg (Zat rfl) ?_|refine Zhg (Zar rfl) ?_
            first|refine Zhg (Zmf (b := 12) rfl rfl) ?_|refine Zhg (Zbn rfl rfl) ?_
            refine Zhm 28 rfl (decide_eq_true (hk)) ?_
            first|refine Zhg (Zau rfl) ?_|refine Zhg (Zar rfl) ?_
            first|refine Zhi rfl ?_|refine Zhj rfl ?_|(refine Zhh rfl ?_; (first|refine Zhg (Zat rfl) ?_|refine Zhg (Zar rfl) ?_))
            first|refine Zhi rfl ?_|refine Zhj rfl ?_|(refine Zhh rfl ?_; (first|refine Zhg (Zaw rfl) ?_|refine Zhg (Zar rfl) ?_))
            first|refine Zhi rfl ?_|refine Zhj rfl ?_|(refine Zhh rfl ?_; (first|refine Zhg (Zcr rfl) ?_|refine Zhg (Zct) ?_|refine Zhg (Zcu rfl) ?_))
            first|refine Zhi rfl ?_|refine Zhj rfl ?_|(refine Zhh rfl ?_; (first|refine Zhg (Zmf rfl rfl) ?_|refine Zhg (Zbn rfl rfl) ?_))
            refine Zhm 33 rfl (decide_eq_true (hkl)) ?_
            first|refine Zhg (Zdz rfl rfl) ?_|refine Zhg (Zd0 rfl rfl) ?_|refine Zhg (Za8 rfl rfl) ?_|refine Zhg (Za9 rfl rfl) ?_|refine Zhg (Za6 rfl rfl) ?_|refine Zhg (Za7 rfl rfl) ?_
            refine Zg3 ?_
            refine Ct.o ?_
            refine Zge rfl ?_
            refine Ct.o ?_
            refine Zgt (fun F w H => (hb.imp (Imp.arr (M := _) qV)).some (by omega) H) ?_
            rintro ⟨b1, b2, rfl⟩
            refine Ct.o ?_
            refine Zgb ?_
            first|refine Zhg (Zat rfl) ?_|refine Zhg (Zar rfl) ?_
            first|refine Zhg (Zaw rfl) ?_|refine Zhg (Zar rfl) ?_
            first|refine Zhg (Zat rfl) ?_|refine Zhg (Zar rfl) ?_
            first|refine Zhg (Zl4 (n := k) rfl (int_eq (by push_cast; omega))) ?_|refine Zhg (Zl1 (n := k) rfl (int_eq (by push_cast; omega))) ?_
            refine Zff rfl (((hb.rd.imp qI).at hkl (getM hkl))) ?_
            first|refine Zhg (Zl8 rfl) ?_|refine Zhg (Zce rfl) ?_
            first|refine Zhg (Zl5 (n := k) rfl (int_eq (by push_cast; omega))) ?_|refine Zhg (Zl3 (n := k) rfl (int_eq (by push_cast; omega))) ?_
            refine Zht rfl rfl qR qZ (tcells_set 1 page s.size b[k] (headAt b k) k) ?_
            refine Zg3 ?_
            refine Ct.o ?_
            rw [headAt_set b k hk hkl]
            refine Ct.o ?_
            refine Zgb ?_
            first|refine Zhg (Zat rfl) ?_|refine Zhg (Zar rfl) ?_
            first|refine Zhg (Zma (b := 1) rfl rfl) ?_|refine Zhg (Zbg rfl rfl) ?_
            first|refine Zhg (Zaz rfl) ?_|refine Zhg (Zas rfl) ?_
            refine Zg3 ?_
            refine Ct.o ?_
            exact Zgl (k + 1) qO ⟨by omega, by omega⟩ qI ⟨rfl, trivial⟩
          · refine Ct.o ?_
            refine Zgb ?_
            first|refine Zhg (Zat rfl) ?_|refine Zhg (Zar rfl) ?_
            first|refine Zhg (Zmf (b := 12) rfl rfl) ?_|refine Zhg (Zbn rfl rfl) ?_
            refine Zhm 28 rfl (decide_eq_true (hk)) ?_
            first|refine Zhg (Zau rfl) ?_|refine Zhg (Zar rfl) ?_
            first|refine Zhi rfl ?_|refine Zhj rfl ?_|(refine Zhh rfl ?_; (first|refine Zhg (Zat rfl) ?_|refine Zhg (Zar rfl) ?_))
            first|refine Zhi rfl ?_|refine Zhj rfl ?_|(refine Zhh rfl ?_; (first|refine Zhg (Zaw rfl) ?_|refine Zhg (Zar rfl) ?_))
            first|refine Zhi rfl ?_|refine Zhj rfl ?_|(refine Zhh rfl ?_; (first|refine Zhg (Zcr rfl) ?_|refine Zhg (Zct) ?_|refine Zhg (Zcu rfl) ?_))
            first|refine Zhi rfl ?_|refine Zhj rfl ?_|(refine Zhh rfl ?_; (first|refine Zhg (Zmf rfl rfl) ?_|refine Zhg (Zbn rfl rfl) ?_))
            refine Zhn 33 rfl (decide_eq_false (hkl)) ?_
            first|refine Zhg (Zdz rfl rfl) ?_|refine Zhg (Zd0 rfl rfl) ?_|refine Zhg (Za8 rfl rfl) ?_|refine Zhg (Za9 rfl rfl) ?_|refine Zhg (Za6 rfl rfl) ?_|refine Zhg (Za7 rfl rfl) ?_
            refine Zg3 ?_
            refine Ct.o ?_
            refine Zgf rfl ?_
            refine Ct.o ?_
            rw [headAt_end b k hk12 hkb (fun hh => hkl hh.2)]
            exact Zgk () trivial qI trivial
        · refine Ct.o ?_
          refine Zgb ?_
          first|refine Zhg (Zat rfl) ?_|refine Zhg (Zar rfl) ?_
          first|refine Zhg (Zmf (b := 12) rfl rfl) ?_|refine Zhg (Zbn rfl rfl) ?_
          refine Zhn 28 rfl (decide_eq_false (hk)) ?_
          first|refine Zhg (Zau rfl) ?_|refine Zhg (Zar rfl) ?_
          first|refine Zhi rfl ?_|refine Zhj rfl ?_|(refine Zhh rfl ?_; (first|refine Zhg (Zat rfl) ?_|refine Zhg (Zar rfl) ?_))
          first|refine Zhi rfl ?_|refine Zhj rfl ?_|(refine Zhh rfl ?_; (first|refine Zhg (Zaw rfl) ?_|refine Zhg (Zar rfl) ?_))
          first|refine Zhi rfl ?_|refine Zhj rfl ?_|(refine Zhh rfl ?_; (first|refine Zhg (Zcr rfl) ?_|refine Zhg (Zct) ?_|refine Zhg (Zcu rfl) ?_))
          first|refine Zhi rfl ?_|refine Zhj rfl ?_|(refine Zhh rfl ?_; (first|refine Zhg (Zmf rfl rfl) ?_|refine Zhg (Zbn rfl rfl) ?_))
          first|refine Zhg (Zdz rfl rfl) ?_|refine Zhg (Zd0 rfl rfl) ?_|refine Zhg (Za8 rfl rfl) ?_|refine Zhg (Za9 rfl rfl) ?_|refine Zhg (Za6 rfl rfl) ?_|refine Zhg (Za7 rfl rfl) ?_
          refine Zg3 ?_
          refine Ct.o ?_
          refine Zgf rfl ?_
          refine Ct.o ?_
          rw [headAt_end b k hk12 hkb (fun hh => hk hh.1)]
          exact Zgk () trivial qI trivial
      intro _ u _
      try dsimp only
      refine Ct.o ?_
      have hsz15 : (tcells (⟨1, page, s.size, HostS.headOf b⟩ : HostS.Touch)).toArray.size = 15 := by simp [tcells, headOf_len]
      cases hdn : s.down with
      | true =>
        rw [does_down hdn]
        dsimp only
        refine Ct.o ?_
        refine Zgb ?_
        first|refine Zhg (Zav rfl) ?_|refine Zhg (Zar rfl) ?_
        first|refine Zhr rfl qH qZ ?_|refine Zhq rfl qH qZ rfl ?_
        refine Zh8 rfl (by kernel_rfl) (rBegin_down (⟨1, page, s.size, HostS.headOf b⟩ : HostS.Touch)) rfl qT ?_
        rintro _ _ ⟨rfl, rfl⟩
        refine Zg2 qA ?_
        refine Zhg (Zb0 rfl) ?_
        refine Zhm 47 rfl (rfl) ?_
        refine Zg3 ?_
        refine Ct.o ?_
        refine Zge rfl ?_
        refine Ct.o ?_
        refine Zgb ?_
        first|refine Zhg (Zaz rfl) ?_|refine Zhg (Zas rfl) ?_
        refine Zg3 ?_
        refine Ct.o ?_
        refine rx1 (Zg9 rfl (Zg7)) ?_
        exact ⟨_, ⟨rfl, wl, wa, wc, la, lc, h, rfl⟩, by rw [hdn]; exact qI⟩
      | false =>
        cases h3 : HostS.before (s.coming s.ops) with
        | true =>
          rw [does_before hdn h3]
          dsimp only
          have hd : RefOk (HostS.does s 1 page b id).1 fl wl := refok_does h 1 page b id (fun _ => ⟨rfl, rfl, rfl, rfl⟩) (fun h => h)
          rw [does_before hdn h3] at hd
          refine Ct.o ?_
          refine Zgb ?_
          first|refine Zhg (Zav rfl) ?_|refine Zhg (Zar rfl) ?_
          first|refine Zhr rfl qH qZ ?_|refine Zhq rfl qH qZ rfl ?_
          refine Zh8 rfl (by kernel_rfl) (hbg1 h3) rfl qT ?_
          rintro _ _ ⟨rfl, rfl⟩
          refine Zg2 qA ?_
          refine Zhg (Zb0 rfl) ?_
          refine Zhm 47 rfl (rfl) ?_
          refine Zg3 ?_
          refine Ct.o ?_
          refine Zge rfl ?_
          refine Ct.o ?_
          refine Zgb ?_
          first|refine Zhg (Zaz rfl) ?_|refine Zhg (Zas rfl) ?_
          refine Zg3 ?_
          refine Ct.o ?_
          refine rx1 (Zg9 rfl (Zg7)) ?_
          exact ⟨_, ⟨rfl, wl, wa, wc, la, lc, hd, rfl⟩, qI⟩
        | false =>
          refine Ct.o ?_
          refine Zgb ?_
          first|refine Zhg (Zav rfl) ?_|refine Zhg (Zar rfl) ?_
          first|refine Zhr rfl qH qZ ?_|refine Zhq rfl qH qZ rfl ?_
          refine Zh8 rfl (by kernel_rfl) (hbg2 h3) rfl qT ?_
          rintro _ _ ⟨rfl, l1, m1, rfl⟩
          refine Zg2 qA ?_
          refine Zhg (Zb0 rfl) ?_
          refine Zhn 47 rfl (rfl) ?_
          refine Zg3 ?_
          refine Ct.o ?_
          refine Zgf rfl ?_
          refine Ct.o ?_
          refine Zgb ?_
          first|refine Zhg (Za2 rfl) ?_|refine Zhg (Zas rfl) ?_
          refine Zg3 ?_
          refine Ct.o ?_
          refine Zgp (Imp.own_nil (E := 5) (size := 1)) ?_
          refine Ct.o ?_
          refine Zgb ?_
          first|refine Zhg (Zaw rfl) ?_|refine Zhg (Zar rfl) ?_
          first|refine Zhg (Zaw rfl) ?_|refine Zhg (Zar rfl) ?_
          refine Zia rfl rfl qH (hb.rd.imp (Imp.arr qV)) (by first|rfl|exact oneM_u8 _|exact oneL_u8 _|exact fc_one _|exact fc_ones _|exact tcells_one _|(simp [oneC]; done)) (by omega) qS ?_; intro pa pk
          first|refine Zhg (Za2 rfl) ?_|refine Zhg (Zas rfl) ?_
          refine Zg3 ?_
          refine Ct.o ?_
          rw [show 0 + b.length = b.length from Nat.zero_add _, List.nil_append]
          refine Ct.o ?_
          refine Zgb ?_
          first|refine Zhg (Zav rfl) ?_|refine Zhg (Zar rfl) ?_
          first|refine Zhg (Zav rfl) ?_|refine Zhg (Zar rfl) ?_
          refine Zhg (Zba rfl) ?_
          first|refine Zhg (Zl8 rfl) ?_|refine Zhg (Zce rfl) ?_
          refine Zhp rfl qH rfl ?_
          first|refine Zhg (Zat rfl) ?_|refine Zhg (Zar rfl) ?_
          first|refine Zhg (Zaw rfl) ?_|refine Zhg (Zar rfl) ?_
          refine Zhg (Zdm (cs := (wcell (page, (pa, pk, b))).toArray) rfl) ?_
          refine Zh7 (cs := (wcell (page, (pa, pk, b))).toArray) (by omega) (by omega) qF ?_; intro b59
          refine Zia rfl rfl qH (Rd.cl (xs := wcell (page, (pa, pk, b))) qH rfl qZ rfl) (by first|rfl|exact oneM_u8 _|exact oneL_u8 _|exact fc_one _|exact fc_ones _|exact tcells_one _|(simp [oneC]; done)) (by omega) qS ?_; intro a3 c3
          refine Zhg (Zba rfl) ?_
          first|refine Zhg (Zl8 rfl) ?_|refine Zhg (Zce rfl) ?_
          refine Zhw rfl rfl qR qZ rfl ?_
          refine Zg3 ?_
          refine Ct.o ?_
          have ew : wl.flatMap wcell ++ wcell (page, (pa, pk, b)) = (wl ++ [(page, (pa, pk, b))]).flatMap wcell := by simp
          have el : wl.length + 1 = (wl ++ [(page, (pa, pk, b))]).length := by simp
          rw [ew, el]
          refine Zgp (Imp.arr (N := ownP (pa, pk, b) :: star ownP (wl.map (·.2)) :: cl q (rcl s.pages s.size fa fl.length fc a3 (wl ++ [(page, (pa, pk, b))]).length c3 s.reg s.ops l1 (s.log ++ [(⟨1, page, s.size, HostS.headOf b⟩ : HostS.Touch)]).length m1 false) 93 :: own 28 6 (.slice fa fl.length fc) fl.length (fl.flatMap fcells) :: own 97 2 (.slice a3 (wl ++ [(page, (pa, pk, b))]).length c3) (wl ++ [(page, (pa, pk, b))]).length ((wl ++ [(page, (pa, pk, b))]).flatMap wcell) :: own 56 15 (.slice l1 (s.log ++ [(⟨1, page, s.size, HostS.headOf b⟩ : HostS.Touch)]).length m1) (s.log ++ [(⟨1, page, s.size, HostS.headOf b⟩ : HostS.Touch)]).length ((s.log ++ [(⟨1, page, s.size, HostS.headOf b⟩ : HostS.Touch)]).flatMap tcells) :: L) (by unfold ownP vP; repeat (first|exact Arr.nil|exact Arr.stop|refine Arr.cons (by repeat constructor) ?_|refine Arr.skip ?_))) ?_
          refine Zgp (star_snoc (A := ownP) (x := (pa, pk, b))) ?_
          have ez : wl.map (·.2) ++ [(pa, pk, b)] = (wl ++ [(page, (pa, pk, b))]).map (·.2) := by simp
          rw [ez]
          have hen := rEnd_x (q := q) (pages := s.pages) (size := s.size) (fc := fc) (wc := c3) (ops := s.ops) (lc := m1) (fa := fa) (wa := a3) (la := l1) (reg := s.reg) (down := false) (fl := fl) (wl := wl ++ [(page, (pa, pk, b))]) (log := s.log ++ [(⟨1, page, s.size, HostS.headOf b⟩ : HostS.Touch)]) (by omega) (by omega)
          rw [bef4 h.later] at hen
          cases h4 : HostS.behind (s.coming s.ops) with
          | true =>
            rw [does_behind hdn h3 h4]
            dsimp only
            rw [h4] at hen
            have hk2 : HostS.Ok { HostS.wrote page b (HostS.logged s 1 page b) with down := true } := ok_down true (hwr (ok_logged 1 page b h.ok))
            refine Ct.o ?_
            refine Zgb ?_
            first|refine Zhg (Zav rfl) ?_|refine Zhg (Zar rfl) ?_
            refine Zh8 rfl (by kernel_rfl) (hen) rfl qT ?_
            rintro _ _ ⟨rfl, rfl⟩
            refine Zg2 qA ?_
            refine Zhg (Zb0 rfl) ?_
            refine Zhm 65 rfl (rfl) ?_
            refine Zg3 ?_
            refine Ct.o ?_
            refine Zge rfl ?_
            refine Ct.o ?_
            refine Zgb ?_
            first|refine Zhg (Zaz rfl) ?_|refine Zhg (Zas rfl) ?_
            refine Zg3 ?_
            refine Ct.o ?_
            refine rx1 (Zg9 rfl (Zg7)) ?_
            exact ⟨_, ⟨rfl, wl ++ [(page, (pa, pk, b))], a3, c3, l1, m1, refok_wrote h page b (pa, pk, b) rfl hsz hk2 rfl rfl rfl rfl, rfl⟩, qI⟩
          | false =>
            rw [does_fine hdn h3 h4]
            dsimp only
            rw [h4] at hen
            have hk2 : HostS.Ok (HostS.wrote page b (HostS.logged s 1 page b)) := hwr (ok_logged 1 page b h.ok)
            refine Ct.o ?_
            refine Zgb ?_
            first|refine Zhg (Zav rfl) ?_|refine Zhg (Zar rfl) ?_
            refine Zh8 rfl (by kernel_rfl) (hen) rfl qT ?_
            rintro _ _ ⟨rfl, rfl⟩
            refine Zg2 qA ?_
            refine Zhg (Zb0 rfl) ?_
            refine Zhn 65 rfl (rfl) ?_
            refine Zg3 ?_
            refine Ct.o ?_
            refine Zgf rfl ?_
            refine Ct.o ?_
            refine Zgb ?_
            first|refine Zhg (Zaz rfl) ?_|refine Zhg (Zas rfl) ?_
            refine Zg3 ?_
            refine Ct.o ?_
            refine rx1 (Zg9 rfl (Zg7)) ?_
            exact ⟨_, ⟨rfl, wl ++ [(page, (pa, pk, b))], a3, c3, l1, m1, refok_wrote h page b (pa, pk, b) rfl hsz hk2 rfl rfl rfl rfl, rfl⟩, by rw [show (HostS.wrote page b (HostS.logged s 1 page b)).down = false from hdn]; exact qI⟩
    · rw [if_neg hsz]
      refine fn_x Try.func40 rfl rfl rfl Try.mixed (by kernel_rfl) ?_
      intro w0
      refine Ct.o ?_
      refine Zgb ?_
      first|refine Zhg (Zaz rfl) ?_|refine Zhg (Zas rfl) ?_
      refine Zg3 ?_
      refine Ct.o ?_
      refine Zgb ?_
      first|refine Zhg (Zav rfl) ?_|refine Zhg (Zar rfl) ?_
      first|refine Zhg (Zat rfl) ?_|refine Zhg (Zar rfl) ?_
      refine Zh8 rfl (by kernel_rfl) (rThere_x page) rfl qT ?_
      rintro _ _ ⟨rfl, rfl⟩
      refine Zg2 qA ?_
      refine Zhm 12 rfl (decide_eq_true (ht)) ?_
      refine Zhg (Zb0 rfl) ?_
      refine Zhn 13 rfl (rfl) ?_
      refine Zg3 ?_
      refine Ct.o ?_
      refine Zgf rfl ?_
      refine Ct.o ?_
      refine Zgb ?_
      first|refine Zhg (Zaw rfl) ?_|refine Zhg (Zar rfl) ?_
      first|refine Zhg (Zcr rfl) ?_|refine Zhg (Zct) ?_|refine Zhg (Zcu rfl) ?_
      first|refine Zhg (Zav rfl) ?_|refine Zhg (Zar rfl) ?_
      refine Zhg (Zba rfl) ?_
      first|refine Zhg (Zl8 rfl) ?_|refine Zhg (Zce rfl) ?_
      refine Zhp rfl qH rfl ?_
      first|refine Zhg (Zmk rfl rfl) ?_|refine Zhg (Zbs rfl rfl) ?_
      refine Zhm 20 rfl (decide_eq_true (hsz)) ?_
      refine Zg3 ?_
      refine Ct.o ?_
      refine Zge rfl ?_
      refine Ct.o ?_
      refine Zgb ?_
      first|refine Zhg (Zaz rfl) ?_|refine Zhg (Zas rfl) ?_
      refine Zg3 ?_
      refine Ct.o ?_
      refine rx1 (Zg9 rfl (Zg7)) ?_
      exact ⟨_, ⟨rfl, wl, wa, wc, la, lc, h, rfl⟩, qI⟩
  · rw [if_neg (show ¬ HostS.there s page from ht)]
    refine fn_x Try.func40 rfl rfl rfl Try.mixed (by kernel_rfl) ?_
    intro w0
    refine Ct.o ?_
    refine Zgb ?_
    first|refine Zhg (Zaz rfl) ?_|refine Zhg (Zas rfl) ?_
    refine Zg3 ?_
    refine Ct.o ?_
    refine Zgb ?_
    first|refine Zhg (Zav rfl) ?_|refine Zhg (Zar rfl) ?_
    first|refine Zhg (Zat rfl) ?_|refine Zhg (Zar rfl) ?_
    refine Zh8 rfl (by kernel_rfl) (rThere_x page) rfl qT ?_
    rintro _ _ ⟨rfl, rfl⟩
    refine Zg2 qA ?_
    refine Zhn 12 rfl (decide_eq_false (ht)) ?_
    refine Zhg (Zb0 rfl) ?_
    refine Zhm 13 rfl (rfl) ?_
    refine Zg3 ?_
    refine Ct.o ?_
    refine Zge rfl ?_
    refine Ct.o ?_
    refine Zgb ?_
    first|refine Zhg (Zaz rfl) ?_|refine Zhg (Zas rfl) ?_
    refine Zg3 ?_
    refine Ct.o ?_
    refine rx1 (Zg9 rfl (Zg7)) ?_
    exact ⟨_, ⟨rfl, wl, wa, wc, la, lc, h, rfl⟩, qI⟩
end
end Go.Sl

/- the document's host (trystref11): its contracts over one piece; New, walked; trystlaw11: kept, made, walked. -/
set_option maxHeartbeats 4000000
set_option maxRecDepth 10000
set_option linter.unusedVariables false
set_option linter.unusedSimpArgs false
namespace Go.Sl
open Go Go.Proofs
attribute [local irreducible] cl pt own old pur ex all den denOps denS xOps xC cX CX xthen xblk xcut xloop xgo xng retX resX Calls PV Rd Con
attribute [local irreducible] hostA HostS.spoilt HostS.back
abbrev RT := (Option Addr × Nat) × (Option Addr × Nat) × (Option Addr × Nat) × List Wr
def refB (q : Nat) (s : HostS.HS) (fl : List HostS.Fault) (t : RT) : Asrt := all (pur (RefOk s fl t.2.2.2) :: refL q s fl t.2.2.2 t.1.1 t.1.2 t.2.1.1 t.2.1.2 t.2.2.1.1 t.2.2.1.2)
/-- The document's host. -/
def refA (q : Nat) (s : HostS.HS) (fl : List HostS.Fault) : Asrt := ex (refB q s fl)
section
variable {q : Nat} {s : HostS.HS} {fl : List HostS.Fault}
theorem refA_mk {L : List Asrt} {wl : List Wr} {fa wa la : Option Addr} {fc wc lc : Nat} (h : RefOk s fl wl) : Imp (refL q s fl wl fa fc wa wc la lc ++ L) (refA q s fl :: L) :=
  ((Imp.pur_mk h).trans (Imp.app (L := pur (RefOk s fl wl) :: refL q s fl wl fa fc wa wc la lc))).trans (Imp.head fun f h => by unfold refA Sl.ex; exact Exists.intro (p := fun x => (refB q s fl x).on f) ((fa, fc), (wa, wc), (la, lc), wl) h)
theorem Con.refA {F : FuncId} {args : List Value} {L : List Asrt} {Φ : Value → List Asrt → Prop} (h : ∀ (wl : List Wr) (fa : Option Addr) (fc : Nat) (wa : Option Addr) (wc : Nat) (la : Option Addr) (lc : Nat), RefOk s fl wl → Con Try.prog F args (refL q s fl wl fa fc wa wc la lc ++ L) Φ) : Con Try.prog F args (Sl.refA q s fl :: L) Φ :=
  Con.ex fun t => Con.pre (Con.pur fun hk => h t.2.2.2 t.1.1 t.1.2 t.2.1.1 t.2.1.2 t.2.2.1.1 t.2.2.1.2 hk) (Imp.unapp (L := Sl.pur (RefOk s fl t.2.2.2) :: refL q s fl t.2.2.2 t.1.1 t.1.2 t.2.1.1 t.2.1.2 t.2.2.1.1 t.2.2.1.2))
theorem ra_lies (page : Int) (hops : s.ops ≤ 3298534883328) : Con Try.prog 47 [hp q, .int .i64 page] [refA q s fl] (fun r M => ∃ a c, r = .slice a (HostS.liesR s page).length c ∧ M = [ownB a c (HostS.liesR s page), refA q s fl]) :=
  Con.refA fun wl fa fc wa wc la lc hk => (rLies_x page hk hops).mono fun r M ⟨a, c, hr, hM⟩ => by
    subst hM; exact ⟨_, Imp.cons (by simpa using refA_mk (L := []) hk), a, c, hr, rfl⟩
theorem ra_read (page : Int) (hops : s.ops < 3298534883328) : Con Try.prog 38 [hp q, .int .i64 page] [refA q s fl] (fun r M => ∃ a c, r = .tuple #[.slice a (HostS.readR s page).1.length c, nvv (HostS.readR s page).2.1] ∧ M = [ownB a c (HostS.readR s page).1, refA q (HostS.readR s page).2.2 fl]) :=
  Con.refA fun wl fa fc wa wc la lc hk => (rRead_x page hk hops).mono fun r M ⟨a, c, la', lc', hr, hM⟩ => by
    subst hM; exact ⟨_, Imp.cons (by simpa using refA_mk (L := []) (refok_read hk page)), a, c, hr, rfl⟩
theorem ra_ask (hops : s.ops < 3298534883328) : Con Try.prog 42 [hp q] [refA q s fl] (fun r M => r = .tuple #[u64b (HostS.askR s).1, nvv (HostS.askR s).2.1] ∧ M = [refA q (HostS.askR s).2.2 fl]) :=
  Con.refA fun wl fa fc wa wc la lc hk => (rAsk_x hk hops).mono fun r M ⟨hr, la', lc', hM⟩ => by
    subst hM; exact ⟨_, by simpa using refA_mk (L := []) (refok_ask hk), hr, rfl⟩
theorem ra_raise (v : BitVec 64) (hops : s.ops < 3298534883328) : Con Try.prog 43 [hp q, u64b v] [refA q s fl] (fun r M => r = nvv (HostS.raiseR s v).1 ∧ M = [refA q (HostS.raiseR s v).2 fl]) :=
  Con.refA fun wl fa fc wa wc la lc hk => (rRaise_x v hk hops).mono fun r M ⟨hr, la', lc', hM⟩ => by
    subst hM; exact ⟨_, by simpa using refA_mk (L := []) (refok_raise hk v), hr, rfl⟩
theorem ra_restart : Con Try.prog 44 [hp q] [refA q s fl] (fun r M => M = [refA q { s with down := false } fl]) :=
  Con.refA fun wl fa fc wa wc la lc hk => (Con.frame rRestart_x).mono fun r M ⟨M', h1, hM⟩ => by
    subst h1; subst hM; exact ⟨_, by simpa using refA_mk (L := []) (refok_down hk false), rfl⟩
theorem ra_write {L : List Asrt} (page : Int) {vb : Value} {b : List Byte} (hb : Bs L vb b) (hbl : b.length ≤ 140737488351232) (hops : s.ops < 3298534883328) : Con Try.prog 40 [hp q, .int .i64 page, vb] (refA q s fl :: L) (fun r M => r = nvv (HostS.writeR s page b).1 ∧ M = refA q (HostS.writeR s page b).2 fl :: L) :=
  Con.refA fun wl fa fc wa wc la lc hk => (rWrite_x page hb hbl hk hops).mono fun r M ⟨hr, wl', wa', wc', la', lc', hk', hM⟩ => by
    subst hM; exact ⟨_, refA_mk hk', hr, rfl⟩
end
theorem refok_fresh (pages : Int) (size : Nat) (fl : List HostS.Fault) (hp : 0 ≤ pages ∧ pages ≤ 65536 ∧ 1 ≤ (size : Int) ∧ (size : Int) ≤ 4124) (hfo : ∀ f ∈ fl, HostS.FOk f) (hfl : fl.length * 48 ≤ 140737488351232) : RefOk (HostS.fresh pages size fl) fl [] :=
  ⟨ok_fresh pages size fl hp hfo (by omega), fun _ _ => rfl, fun _ => rfl, (fun e he => by cases he), Nat.le_refl _, hfl, hfo⟩
theorem kind_next (fl : List HostS.Fault) (i : Nat) (hi : i < fl.length) (h : (fl.take i).all HostS.kindly = true) (h0 : 0 ≤ fl[i].kind) (h4 : fl[i].kind ≤ 4) : (fl.take (i + 1)).all HostS.kindly = true := by
  rw [List.take_succ_eq_append_getElem hi, List.all_append, h]
  simp [HostS.kindly, h0, h4]
theorem kind_bad (fl : List HostS.Fault) (i : Nat) (hi : i < fl.length) (hx : ¬ (0 ≤ fl[i].kind ∧ fl[i].kind ≤ 4)) : ¬ fl.all HostS.kindly = true := by
  intro h
  have := List.all_eq_true.1 h fl[i] (List.getElem_mem hi)
  unfold HostS.kindly at this
  simp only [Bool.and_eq_true, decide_eq_true_eq] at this
  exact hx this
theorem rNew_x {L : List Asrt} (pages size : Int) {fv : Value} {fl : List HostS.Fault} (hf : FaultsIn L fv fl) : Con Try.prog 36 [.int .i64 pages, .int .i64 size, fv] L (fun r M => (HostS.mayBe pages size fl → ∃ q, r = .tuple #[hp q, nvv 0] ∧ M = refA q (HostS.fresh pages size.toNat fl) fl :: L) ∧ (¬ HostS.mayBe pages size fl → r = .tuple #[.pointer none, nvv 2] ∧ M = L)) := by
  refine Con.get (fun w0 w F H => hf.rd.len H) ?_
  rintro ⟨fa, fc, rfl⟩
  have hfl := hf.len
  by_cases h1 : pages < 0
  · refine fn_x Try.func36 rfl rfl rfl Try.mixed (by kernel_rfl) ?_
    intro w0
    refine Ct.o ?_
    refine Zgb ?_
    first|refine Zhg (Za1 rfl) ?_|refine Zhg (Zas rfl) ?_
    first|refine Zhg (Zaz rfl) ?_|refine Zhg (Zas rfl) ?_
    refine Zg3 ?_
    refine Ct.o ?_
    refine Zgb ?_
    first|refine Zhg (Zat rfl) ?_|refine Zhg (Zar rfl) ?_
    first|refine Zhg (Zmf (b := 0) rfl rfl) ?_|refine Zhg (Zbn rfl rfl) ?_
    refine Zhm 11 rfl (decide_eq_true (h1)) ?_
    first|refine Zhg (Zau rfl) ?_|refine Zhg (Zar rfl) ?_
    first|refine Zhi rfl ?_|refine Zhj rfl ?_|(refine Zhh rfl ?_; (first|refine Zhg (Zat rfl) ?_|refine Zhg (Zar rfl) ?_))
    first|refine Zhi rfl ?_|refine Zhj rfl ?_|(refine Zhh rfl ?_; (first|refine Zhg (Zmh (b := 65536) rfl rfl) ?_|refine Zhg (Zbp rfl rfl) ?_))
    first|refine Zhg (Zdz rfl rfl) ?_|refine Zhg (Zd0 rfl rfl) ?_|refine Zhg (Za8 rfl rfl) ?_|refine Zhg (Za9 rfl rfl) ?_|refine Zhg (Za6 rfl rfl) ?_|refine Zhg (Za7 rfl rfl) ?_
    first|refine Zhg (Zau rfl) ?_|refine Zhg (Zar rfl) ?_
    first|refine Zhi rfl ?_|refine Zhj rfl ?_|(refine Zhh rfl ?_; (first|refine Zhg (Zat rfl) ?_|refine Zhg (Zar rfl) ?_))
    first|refine Zhi rfl ?_|refine Zhj rfl ?_|(refine Zhh rfl ?_; (first|refine Zhg (Zmf (b := 1) rfl rfl) ?_|refine Zhg (Zbn rfl rfl) ?_))
    first|refine Zhg (Zdz rfl rfl) ?_|refine Zhg (Zd0 rfl rfl) ?_|refine Zhg (Za8 rfl rfl) ?_|refine Zhg (Za9 rfl rfl) ?_|refine Zhg (Za6 rfl rfl) ?_|refine Zhg (Za7 rfl rfl) ?_
    first|refine Zhg (Zau rfl) ?_|refine Zhg (Zar rfl) ?_
    first|refine Zhi rfl ?_|refine Zhj rfl ?_|(refine Zhh rfl ?_; (first|refine Zhg (Zat rfl) ?_|refine Zhg (Zar rfl) ?_))
    first|refine Zhi rfl ?_|refine Zhj rfl ?_|(refine Zhh rfl ?_; (first|refine Zhg (Zmh (b := 4124) rfl rfl) ?_|refine Zhg (Zbp rfl rfl) ?_))
    first|refine Zhg (Zdz rfl rfl) ?_|refine Zhg (Zd0 rfl rfl) ?_|refine Zhg (Za8 rfl rfl) ?_|refine Zhg (Za9 rfl rfl) ?_|refine Zhg (Za6 rfl rfl) ?_|refine Zhg (Za7 rfl rfl) ?_
    refine Zg3 ?_
    refine Ct.o ?_
    refine Zge rfl ?_
    refine Ct.o ?_
    refine Zgb ?_
    first|refine Zhg (Za1 rfl) ?_|refine Zhg (Zas rfl) ?_
    first|refine Zhg (Zaz rfl) ?_|refine Zhg (Zas rfl) ?_
    refine Zg3 ?_
    refine Ct.o ?_
    refine rx2 (Zhb rfl (Zg9 rfl (Zg7))) ?_
    exact ⟨_, ⟨fun hm => absurd hm.1 (fun hh => by omega), fun _ => ⟨rfl, rfl⟩⟩, qI⟩
  by_cases h2 : 65536 < pages
  · refine fn_x Try.func36 rfl rfl rfl Try.mixed (by kernel_rfl) ?_
    intro w0
    refine Ct.o ?_
    refine Zgb ?_
    first|refine Zhg (Za1 rfl) ?_|refine Zhg (Zas rfl) ?_
    first|refine Zhg (Zaz rfl) ?_|refine Zhg (Zas rfl) ?_
    refine Zg3 ?_
    refine Ct.o ?_
    refine Zgb ?_
    first|refine Zhg (Zat rfl) ?_|refine Zhg (Zar rfl) ?_
    first|refine Zhg (Zmf (b := 0) rfl rfl) ?_|refine Zhg (Zbn rfl rfl) ?_
    refine Zhn 11 rfl (decide_eq_false (h1)) ?_
    first|refine Zhg (Zau rfl) ?_|refine Zhg (Zar rfl) ?_
    first|refine Zhi rfl ?_|refine Zhj rfl ?_|(refine Zhh rfl ?_; (first|refine Zhg (Zat rfl) ?_|refine Zhg (Zar rfl) ?_))
    first|refine Zhi rfl ?_|refine Zhj rfl ?_|(refine Zhh rfl ?_; (first|refine Zhg (Zmh (b := 65536) rfl rfl) ?_|refine Zhg (Zbp rfl rfl) ?_))
    refine Zhm 14 rfl (decide_eq_true (h2)) ?_
    first|refine Zhg (Zdz rfl rfl) ?_|refine Zhg (Zd0 rfl rfl) ?_|refine Zhg (Za8 rfl rfl) ?_|refine Zhg (Za9 rfl rfl) ?_|refine Zhg (Za6 rfl rfl) ?_|refine Zhg (Za7 rfl rfl) ?_
    first|refine Zhg (Zau rfl) ?_|refine Zhg (Zar rfl) ?_
    first|refine Zhi rfl ?_|refine Zhj rfl ?_|(refine Zhh rfl ?_; (first|refine Zhg (Zat rfl) ?_|refine Zhg (Zar rfl) ?_))
    first|refine Zhi rfl ?_|refine Zhj rfl ?_|(refine Zhh rfl ?_; (first|refine Zhg (Zmf (b := 1) rfl rfl) ?_|refine Zhg (Zbn rfl rfl) ?_))
    first|refine Zhg (Zdz rfl rfl) ?_|refine Zhg (Zd0 rfl rfl) ?_|refine Zhg (Za8 rfl rfl) ?_|refine Zhg (Za9 rfl rfl) ?_|refine Zhg (Za6 rfl rfl) ?_|refine Zhg (Za7 rfl rfl) ?_
    first|refine Zhg (Zau rfl) ?_|refine Zhg (Zar rfl) ?_
    first|refine Zhi rfl ?_|refine Zhj rfl ?_|(refine Zhh rfl ?_; (first|refine Zhg (Zat rfl) ?_|refine Zhg (Zar rfl) ?_))
    first|refine Zhi rfl ?_|refine Zhj rfl ?_|(refine Zhh rfl ?_; (first|refine Zhg (Zmh (b := 4124) rfl rfl) ?_|refine Zhg (Zbp rfl rfl) ?_))
    first|refine Zhg (Zdz rfl rfl) ?_|refine Zhg (Zd0 rfl rfl) ?_|refine Zhg (Za8 rfl rfl) ?_|refine Zhg (Za9 rfl rfl) ?_|refine Zhg (Za6 rfl rfl) ?_|refine Zhg (Za7 rfl rfl) ?_
    refine Zg3 ?_
    refine Ct.o ?_
    refine Zge rfl ?_
    refine Ct.o ?_
    refine Zgb ?_
    first|refine Zhg (Za1 rfl) ?_|refine Zhg (Zas rfl) ?_
    first|refine Zhg (Zaz rfl) ?_|refine Zhg (Zas rfl) ?_
    refine Zg3 ?_
    refine Ct.o ?_
    refine rx2 (Zhb rfl (Zg9 rfl (Zg7))) ?_
    exact ⟨_, ⟨fun hm => absurd hm.1 (fun hh => by omega), fun _ => ⟨rfl, rfl⟩⟩, qI⟩
  by_cases h3 : size < 1
  · refine fn_x Try.func36 rfl rfl rfl Try.mixed (by kernel_rfl) ?_
    intro w0
    refine Ct.o ?_
    refine Zgb ?_
    first|refine Zhg (Za1 rfl) ?_|refine Zhg (Zas rfl) ?_
    first|refine Zhg (Zaz rfl) ?_|refine Zhg (Zas rfl) ?_
    refine Zg3 ?_
    refine Ct.o ?_
    refine Zgb ?_
    first|refine Zhg (Zat rfl) ?_|refine Zhg (Zar rfl) ?_
    first|refine Zhg (Zmf (b := 0) rfl rfl) ?_|refine Zhg (Zbn rfl rfl) ?_
    refine Zhn 11 rfl (decide_eq_false (h1)) ?_
    first|refine Zhg (Zau rfl) ?_|refine Zhg (Zar rfl) ?_
    first|refine Zhi rfl ?_|refine Zhj rfl ?_|(refine Zhh rfl ?_; (first|refine Zhg (Zat rfl) ?_|refine Zhg (Zar rfl) ?_))
    first|refine Zhi rfl ?_|refine Zhj rfl ?_|(refine Zhh rfl ?_; (first|refine Zhg (Zmh (b := 65536) rfl rfl) ?_|refine Zhg (Zbp rfl rfl) ?_))
    refine Zhn 14 rfl (decide_eq_false (h2)) ?_
    first|refine Zhg (Zdz rfl rfl) ?_|refine Zhg (Zd0 rfl rfl) ?_|refine Zhg (Za8 rfl rfl) ?_|refine Zhg (Za9 rfl rfl) ?_|refine Zhg (Za6 rfl rfl) ?_|refine Zhg (Za7 rfl rfl) ?_
    first|refine Zhg (Zau rfl) ?_|refine Zhg (Zar rfl) ?_
    first|refine Zhi rfl ?_|refine Zhj rfl ?_|(refine Zhh rfl ?_; (first|refine Zhg (Zat rfl) ?_|refine Zhg (Zar rfl) ?_))
    first|refine Zhi rfl ?_|refine Zhj rfl ?_|(refine Zhh rfl ?_; (first|refine Zhg (Zmf (b := 1) rfl rfl) ?_|refine Zhg (Zbn rfl rfl) ?_))
    refine Zhm 18 rfl (decide_eq_true (h3)) ?_
    first|refine Zhg (Zdz rfl rfl) ?_|refine Zhg (Zd0 rfl rfl) ?_|refine Zhg (Za8 rfl rfl) ?_|refine Zhg (Za9 rfl rfl) ?_|refine Zhg (Za6 rfl rfl) ?_|refine Zhg (Za7 rfl rfl) ?_
    first|refine Zhg (Zau rfl) ?_|refine Zhg (Zar rfl) ?_
    first|refine Zhi rfl ?_|refine Zhj rfl ?_|(refine Zhh rfl ?_; (first|refine Zhg (Zat rfl) ?_|refine Zhg (Zar rfl) ?_))
    first|refine Zhi rfl ?_|refine Zhj rfl ?_|(refine Zhh rfl ?_; (first|refine Zhg (Zmh (b := 4124) rfl rfl) ?_|refine Zhg (Zbp rfl rfl) ?_))
    first|refine Zhg (Zdz rfl rfl) ?_|refine Zhg (Zd0 rfl rfl) ?_|refine Zhg (Za8 rfl rfl) ?_|refine Zhg (Za9 rfl rfl) ?_|refine Zhg (Za6 rfl rfl) ?_|refine Zhg (Za7 rfl rfl) ?_
    refine Zg3 ?_
    refine Ct.o ?_
    refine Zge rfl ?_
    refine Ct.o ?_
    refine Zgb ?_
    first|refine Zhg (Za1 rfl) ?_|refine Zhg (Zas rfl) ?_
    first|refine Zhg (Zaz rfl) ?_|refine Zhg (Zas rfl) ?_
    refine Zg3 ?_
    refine Ct.o ?_
    refine rx2 (Zhb rfl (Zg9 rfl (Zg7))) ?_
    exact ⟨_, ⟨fun hm => absurd hm.1 (fun hh => by omega), fun _ => ⟨rfl, rfl⟩⟩, qI⟩
  by_cases h4 : 4124 < size
  · refine fn_x Try.func36 rfl rfl rfl Try.mixed (by kernel_rfl) ?_
    intro w0
    refine Ct.o ?_
    refine Zgb ?_
    first|refine Zhg (Za1 rfl) ?_|refine Zhg (Zas rfl) ?_
    first|refine Zhg (Zaz rfl) ?_|refine Zhg (Zas rfl) ?_
    refine Zg3 ?_
    refine Ct.o ?_
    refine Zgb ?_
    first|refine Zhg (Zat rfl) ?_|refine Zhg (Zar rfl) ?_
    first|refine Zhg (Zmf (b := 0) rfl rfl) ?_|refine Zhg (Zbn rfl rfl) ?_
    refine Zhn 11 rfl (decide_eq_false (h1)) ?_
    first|refine Zhg (Zau rfl) ?_|refine Zhg (Zar rfl) ?_
    first|refine Zhi rfl ?_|refine Zhj rfl ?_|(refine Zhh rfl ?_; (first|refine Zhg (Zat rfl) ?_|refine Zhg (Zar rfl) ?_))
    first|refine Zhi rfl ?_|refine Zhj rfl ?_|(refine Zhh rfl ?_; (first|refine Zhg (Zmh (b := 65536) rfl rfl) ?_|refine Zhg (Zbp rfl rfl) ?_))
    refine Zhn 14 rfl (decide_eq_false (h2)) ?_
    first|refine Zhg (Zdz rfl rfl) ?_|refine Zhg (Zd0 rfl rfl) ?_|refine Zhg (Za8 rfl rfl) ?_|refine Zhg (Za9 rfl rfl) ?_|refine Zhg (Za6 rfl rfl) ?_|refine Zhg (Za7 rfl rfl) ?_
    first|refine Zhg (Zau rfl) ?_|refine Zhg (Zar rfl) ?_
    first|refine Zhi rfl ?_|refine Zhj rfl ?_|(refine Zhh rfl ?_; (first|refine Zhg (Zat rfl) ?_|refine Zhg (Zar rfl) ?_))
    first|refine Zhi rfl ?_|refine Zhj rfl ?_|(refine Zhh rfl ?_; (first|refine Zhg (Zmf (b := 1) rfl rfl) ?_|refine Zhg (Zbn rfl rfl) ?_))
    refine Zhn 18 rfl (decide_eq_false (h3)) ?_
    first|refine Zhg (Zdz rfl rfl) ?_|refine Zhg (Zd0 rfl rfl) ?_|refine Zhg (Za8 rfl rfl) ?_|refine Zhg (Za9 rfl rfl) ?_|refine Zhg (Za6 rfl rfl) ?_|refine Zhg (Za7 rfl rfl) ?_
    first|refine Zhg (Zau rfl) ?_|refine Zhg (Zar rfl) ?_
    first|refine Zhi rfl ?_|refine Zhj rfl ?_|(refine Zhh rfl ?_; (first|refine Zhg (Zat rfl) ?_|refine Zhg (Zar rfl) ?_))
    first|refine Zhi rfl ?_|refine Zhj rfl ?_|(refine Zhh rfl ?_; (first|refine Zhg (Zmh (b := 4124) rfl rfl) ?_|refine Zhg (Zbp rfl rfl) ?_))
    refine Zhm 22 rfl (decide_eq_true (h4)) ?_
    first|refine Zhg (Zdz rfl rfl) ?_|refine Zhg (Zd0 rfl rfl) ?_|refine Zhg (Za8 rfl rfl) ?_|refine Zhg (Za9 rfl rfl) ?_|refine Zhg (Za6 rfl rfl) ?_|refine Zhg (Za7 rfl rfl) ?_
    refine Zg3 ?_
    refine Ct.o ?_
    refine Zge rfl ?_
    refine Ct.o ?_
    refine Zgb ?_
    first|refine Zhg (Za1 rfl) ?_|refine Zhg (Zas rfl) ?_
    first|refine Zhg (Zaz rfl) ?_|refine Zhg (Zas rfl) ?_
    refine Zg3 ?_
    refine Ct.o ?_
    refine rx2 (Zhb rfl (Zg9 rfl (Zg7))) ?_
    exact ⟨_, ⟨fun hm => absurd hm.1 (fun hh => by omega), fun _ => ⟨rfl, rfl⟩⟩, qI⟩
  obtain ⟨n, rfl⟩ : ∃ n : Nat, size = (n : Int) := ⟨size.toNat, by omega⟩
  refine fn_x Try.func36 rfl rfl rfl Try.mixed (by kernel_rfl) ?_
  intro w0
  refine Ct.o ?_
  refine Zgb ?_
  first|refine Zhg (Za1 rfl) ?_|refine Zhg (Zas rfl) ?_
  first|refine Zhg (Zaz rfl) ?_|refine Zhg (Zas rfl) ?_
  refine Zg3 ?_
  refine Ct.o ?_
  refine Zgb ?_
  first|refine Zhg (Zat rfl) ?_|refine Zhg (Zar rfl) ?_
  first|refine Zhg (Zmf (b := 0) rfl rfl) ?_|refine Zhg (Zbn rfl rfl) ?_
  refine Zhn 11 rfl (decide_eq_false (h1)) ?_
  first|refine Zhg (Zau rfl) ?_|refine Zhg (Zar rfl) ?_
  first|refine Zhi rfl ?_|refine Zhj rfl ?_|(refine Zhh rfl ?_; (first|refine Zhg (Zat rfl) ?_|refine Zhg (Zar rfl) ?_))
  first|refine Zhi rfl ?_|refine Zhj rfl ?_|(refine Zhh rfl ?_; (first|refine Zhg (Zmh (b := 65536) rfl rfl) ?_|refine Zhg (Zbp rfl rfl) ?_))
  refine Zhn 14 rfl (decide_eq_false (h2)) ?_
  first|refine Zhg (Zdz rfl rfl) ?_|refine Zhg (Zd0 rfl rfl) ?_|refine Zhg (Za8 rfl rfl) ?_|refine Zhg (Za9 rfl rfl) ?_|refine Zhg (Za6 rfl rfl) ?_|refine Zhg (Za7 rfl rfl) ?_
  first|refine Zhg (Zau rfl) ?_|refine Zhg (Zar rfl) ?_
  first|refine Zhi rfl ?_|refine Zhj rfl ?_|(refine Zhh rfl ?_; (first|refine Zhg (Zat rfl) ?_|refine Zhg (Zar rfl) ?_))
  first|refine Zhi rfl ?_|refine Zhj rfl ?_|(refine Zhh rfl ?_; (first|refine Zhg (Zmf (b := 1) rfl rfl) ?_|refine Zhg (Zbn rfl rfl) ?_))
  refine Zhn 18 rfl (decide_eq_false ((by omega))) ?_
  first|refine Zhg (Zdz rfl rfl) ?_|refine Zhg (Zd0 rfl rfl) ?_|refine Zhg (Za8 rfl rfl) ?_|refine Zhg (Za9 rfl rfl) ?_|refine Zhg (Za6 rfl rfl) ?_|refine Zhg (Za7 rfl rfl) ?_
  first|refine Zhg (Zau rfl) ?_|refine Zhg (Zar rfl) ?_
  first|refine Zhi rfl ?_|refine Zhj rfl ?_|(refine Zhh rfl ?_; (first|refine Zhg (Zat rfl) ?_|refine Zhg (Zar rfl) ?_))
  first|refine Zhi rfl ?_|refine Zhj rfl ?_|(refine Zhh rfl ?_; (first|refine Zhg (Zmh (b := 4124) rfl rfl) ?_|refine Zhg (Zbp rfl rfl) ?_))
  refine Zhn 22 rfl (decide_eq_false ((by omega))) ?_
  first|refine Zhg (Zdz rfl rfl) ?_|refine Zhg (Zd0 rfl rfl) ?_|refine Zhg (Za8 rfl rfl) ?_|refine Zhg (Za9 rfl rfl) ?_|refine Zhg (Za6 rfl rfl) ?_|refine Zhg (Za7 rfl rfl) ?_
  refine Zg3 ?_
  refine Ct.o ?_
  refine Zgf rfl ?_
  refine Ct.o ?_
  refine Zgb ?_
  first|refine Zhg (Zat rfl) ?_|refine Zhg (Zar rfl) ?_
  first|refine Zhg (Zat rfl) ?_|refine Zhg (Zar rfl) ?_
  refine Zhg (Zdm (cs := rcl pages n none 0 0 none 0 0 0#64 0 none 0 0 false) rfl) ?_
  refine Zh5 rfl ?_; intro b27
  first|refine Zhg (Za1 rfl) ?_|refine Zhg (Zas rfl) ?_
  refine Zg3 ?_
  refine Ct.o ?_
  refine Zgb ?_
  first|refine Zhg (Zaz rfl) ?_|refine Zhg (Zas rfl) ?_
  refine Zg3 ?_
  refine Ct.o ?_
  refine Zgp (Imp.own_nil (E := 28) (size := 6)) ?_
  refine Zgo [(6, 7), (9, 9), (28, 60)] (by kernel_rfl) (fun s : Nat × Option Addr × Nat => s.1 ≤ fl.length ∧ (fl.take s.1).all HostS.kindly = true) (fun s => cl b27 (rcl pages n s.2.1 s.1 s.2.2 none 0 0 0#64 0 none 0 0 false) 93 :: own 28 6 (.slice s.2.1 s.1 s.2.2) s.1 ((fl.take s.1).flatMap fcells) :: L) (fun s => [(9, nvv s.1)]) (fun s => fl.length - s.1) (0, none, 0) ⟨Nat.zero_le _, rfl⟩ qI ⟨rfl, trivial⟩ ?_
  rintro ⟨i, a, c⟩ u ⟨hi, hkd⟩
  dsimp only at hi hkd ⊢
  refine Ct.o ?_
  refine Zgb ?_
  first|refine Zhg (Zat rfl) ?_|refine Zhg (Zar rfl) ?_
  first|refine Zhg (Zaw rfl) ?_|refine Zhg (Zar rfl) ?_
  first|refine Zhg (Zcr rfl) ?_|refine Zhg (Zct) ?_|refine Zhg (Zcu rfl) ?_
  first|refine Zhg (Zmf rfl rfl) ?_|refine Zhg (Zbn rfl rfl) ?_
  refine Zg3 ?_
  refine Ct.o ?_
  refine Zgg rfl (fun hB => ?_) (fun hB => ?_)
  · refine Zgt (fun F w H => (hf.rd.imp (Imp.arr (M := _) qV)).someAt (by omega) H) ?_
    rintro ⟨s1, s2, rfl⟩
    by_cases hk0 : fl[i].kind < 0
    · refine Ct.o ?_
      refine Zgb ?_
      first|refine Zhg (Zaw rfl) ?_|refine Zhg (Zar rfl) ?_
      first|refine Zhg (Zat rfl) ?_|refine Zhg (Zar rfl) ?_
      first|refine Zhg (Zl6 rfl rfl) ?_|refine Zhg (Zcg rfl rfl) ?_
      first|refine Zhg (Zl8 rfl) ?_|refine Zhg (Zce rfl) ?_
      refine Zff rfl (((hf.rd.imp qI).atN fcells_len hB (by omega) rfl)) ?_
      first|refine Zhg (Zmf (b := 0) rfl rfl) ?_|refine Zhg (Zbn rfl rfl) ?_
      refine Zhm 39 rfl (decide_eq_true (hk0)) ?_
      first|refine Zhg (Zau rfl) ?_|refine Zhg (Zar rfl) ?_
      first|refine Zhi rfl ?_|refine Zhj rfl ?_|(refine Zhh rfl ?_; (first|refine Zhg (Zaw rfl) ?_|refine Zhg (Zar rfl) ?_))
      first|refine Zhi rfl ?_|refine Zhj rfl ?_|(refine Zhh rfl ?_; (first|refine Zhg (Zat rfl) ?_|refine Zhg (Zar rfl) ?_))
      first|refine Zhi rfl ?_|refine Zhj rfl ?_|(refine Zhh rfl ?_; (first|refine Zhg (Zl6 rfl rfl) ?_|refine Zhg (Zcg rfl rfl) ?_))
      first|refine Zhi rfl ?_|refine Zhj rfl ?_|(refine Zhh rfl ?_; (first|refine Zhg (Zl8 rfl) ?_|refine Zhg (Zce rfl) ?_))
      first|refine Zhi rfl ?_|refine Zhj rfl ?_|(refine Zhh rfl ?_; (refine Zhp rfl qH rfl ?_))
      first|refine Zhi rfl ?_|refine Zhj rfl ?_|(refine Zhh rfl ?_; (first|refine Zhg (Zmh (b := 4) rfl rfl) ?_|refine Zhg (Zbp rfl rfl) ?_))
      first|refine Zhg (Zdz rfl rfl) ?_|refine Zhg (Zd0 rfl rfl) ?_|refine Zhg (Za8 rfl rfl) ?_|refine Zhg (Za9 rfl rfl) ?_|refine Zhg (Za6 rfl rfl) ?_|refine Zhg (Za7 rfl rfl) ?_
      refine Zg3 ?_
      refine Ct.o ?_
      refine Zge rfl ?_
      refine Ct.o ?_
      refine Zgb ?_
      first|refine Zhg (Za1 rfl) ?_|refine Zhg (Zas rfl) ?_
      first|refine Zhg (Zaz rfl) ?_|refine Zhg (Zas rfl) ?_
      refine Zg3 ?_
      refine Ct.o ?_
      refine rx2 (Zhb rfl (Zg9 rfl (Zg7))) ?_
      exact ⟨_, ⟨fun hm => absurd hm.2 (kind_bad fl i hB (fun hh => by omega)), fun _ => ⟨rfl, rfl⟩⟩, qI⟩
    by_cases hk4 : 4 < fl[i].kind
    · refine Ct.o ?_
      refine Zgb ?_
      first|refine Zhg (Zaw rfl) ?_|refine Zhg (Zar rfl) ?_
      first|refine Zhg (Zat rfl) ?_|refine Zhg (Zar rfl) ?_
      first|refine Zhg (Zl6 rfl rfl) ?_|refine Zhg (Zcg rfl rfl) ?_
      first|refine Zhg (Zl8 rfl) ?_|refine Zhg (Zce rfl) ?_
      refine Zff rfl (((hf.rd.imp qI).atN fcells_len hB (by omega) rfl)) ?_
      first|refine Zhg (Zmf (b := 0) rfl rfl) ?_|refine Zhg (Zbn rfl rfl) ?_
      refine Zhn 39 rfl (decide_eq_false (hk0)) ?_
      first|refine Zhg (Zau rfl) ?_|refine Zhg (Zar rfl) ?_
      first|refine Zhi rfl ?_|refine Zhj rfl ?_|(refine Zhh rfl ?_; (first|refine Zhg (Zaw rfl) ?_|refine Zhg (Zar rfl) ?_))
      first|refine Zhi rfl ?_|refine Zhj rfl ?_|(refine Zhh rfl ?_; (first|refine Zhg (Zat rfl) ?_|refine Zhg (Zar rfl) ?_))
      first|refine Zhi rfl ?_|refine Zhj rfl ?_|(refine Zhh rfl ?_; (first|refine Zhg (Zl6 rfl rfl) ?_|refine Zhg (Zcg rfl rfl) ?_))
      first|refine Zhi rfl ?_|refine Zhj rfl ?_|(refine Zhh rfl ?_; (first|refine Zhg (Zl8 rfl) ?_|refine Zhg (Zce rfl) ?_))
      first|refine Zhi rfl ?_|refine Zhj rfl ?_|(refine Zhh rfl ?_; (refine Zff rfl (((hf.rd.imp qI).atN fcells_len hB (by omega) rfl)) ?_))
      first|refine Zhi rfl ?_|refine Zhj rfl ?_|(refine Zhh rfl ?_; (first|refine Zhg (Zmh (b := 4) rfl rfl) ?_|refine Zhg (Zbp rfl rfl) ?_))
      refine Zhm 46 rfl (decide_eq_true (hk4)) ?_
      first|refine Zhg (Zdz rfl rfl) ?_|refine Zhg (Zd0 rfl rfl) ?_|refine Zhg (Za8 rfl rfl) ?_|refine Zhg (Za9 rfl rfl) ?_|refine Zhg (Za6 rfl rfl) ?_|refine Zhg (Za7 rfl rfl) ?_
      refine Zg3 ?_
      refine Ct.o ?_
      refine Zge rfl ?_
      refine Ct.o ?_
      refine Zgb ?_
      first|refine Zhg (Za1 rfl) ?_|refine Zhg (Zas rfl) ?_
      first|refine Zhg (Zaz rfl) ?_|refine Zhg (Zas rfl) ?_
      refine Zg3 ?_
      refine Ct.o ?_
      refine rx2 (Zhb rfl (Zg9 rfl (Zg7))) ?_
      exact ⟨_, ⟨fun hm => absurd hm.2 (kind_bad fl i hB (fun hh => by omega)), fun _ => ⟨rfl, rfl⟩⟩, qI⟩
    refine Ct.o ?_
    refine Zgb ?_
    first|refine Zhg (Zaw rfl) ?_|refine Zhg (Zar rfl) ?_
    first|refine Zhg (Zat rfl) ?_|refine Zhg (Zar rfl) ?_
    first|refine Zhg (Zl6 rfl rfl) ?_|refine Zhg (Zcg rfl rfl) ?_
    first|refine Zhg (Zl8 rfl) ?_|refine Zhg (Zce rfl) ?_
    refine Zff rfl (((hf.rd.imp qI).atN fcells_len hB (by omega) rfl)) ?_
    first|refine Zhg (Zmf (b := 0) rfl rfl) ?_|refine Zhg (Zbn rfl rfl) ?_
    refine Zhn 39 rfl (decide_eq_false (hk0)) ?_
    first|refine Zhg (Zau rfl) ?_|refine Zhg (Zar rfl) ?_
    first|refine Zhi rfl ?_|refine Zhj rfl ?_|(refine Zhh rfl ?_; (first|refine Zhg (Zaw rfl) ?_|refine Zhg (Zar rfl) ?_))
    first|refine Zhi rfl ?_|refine Zhj rfl ?_|(refine Zhh rfl ?_; (first|refine Zhg (Zat rfl) ?_|refine Zhg (Zar rfl) ?_))
    first|refine Zhi rfl ?_|refine Zhj rfl ?_|(refine Zhh rfl ?_; (first|refine Zhg (Zl6 rfl rfl) ?_|refine Zhg (Zcg rfl rfl) ?_))
    first|refine Zhi rfl ?_|refine Zhj rfl ?_|(refine Zhh rfl ?_; (first|refine Zhg (Zl8 rfl) ?_|refine Zhg (Zce rfl) ?_))
    first|refine Zhi rfl ?_|refine Zhj rfl ?_|(refine Zhh rfl ?_; (refine Zff rfl (((hf.rd.imp qI).atN fcells_len hB (by omega) rfl)) ?_))
    first|refine Zhi rfl ?_|refine Zhj rfl ?_|(refine Zhh rfl ?_; (first|refine Zhg (Zmh (b := 4) rfl rfl) ?_|refine Zhg (Zbp rfl rfl) ?_))
    refine Zhn 46 rfl (decide_eq_false (hk4)) ?_
    first|refine Zhg (Zdz rfl rfl) ?_|refine Zhg (Zd0 rfl rfl) ?_|refine Zhg (Za8 rfl rfl) ?_|refine Zhg (Za9 rfl rfl) ?_|refine Zhg (Za6 rfl rfl) ?_|refine Zhg (Za7 rfl rfl) ?_
    refine Zg3 ?_
    refine Ct.o ?_
    refine Zgf rfl ?_
    refine Ct.o ?_
    have hci := fcells_len fl[i]
    refine Ct.o ?_
    refine Zij ((cl b27 (rcl pages n a i c none 0 0 0#64 0 none 0 0 false) 93 :: own 28 6 (.slice a i c) i ((fl.take i).flatMap fcells) :: L)) [8, 9] (.q 0 (.q 1 (.q 2 (.q 3 (.q 5 (.q 6 (.q 7 (.r 4 (.r 8 (.e 9 true (.e 10 false (.q 11 (.q 12 (.e 13 false .nil)))))))))))))) (by kernel_rfl) (by kernel_rfl) (Imp.arr qV) ?_
    first|refine Zim rfl (Zav rfl) ?_|refine Zim rfl (Zar rfl) ?_
    first|refine Zim rfl (Zav rfl) ?_|refine Zim rfl (Zar rfl) ?_
    refine Zim rfl (Zba rfl) ?_
    first|refine Zim rfl (Zl8 rfl) ?_|refine Zim rfl (Zce rfl) ?_
    first|refine Zim rfl (Zaw rfl) ?_|refine Zim rfl (Zar rfl) ?_
    first|refine Zim rfl (Zat rfl) ?_|refine Zim rfl (Zar rfl) ?_
    first|refine Zim rfl (Zl6 rfl rfl) ?_|refine Zim rfl (Zcg rfl rfl) ?_
    refine Ziv rfl rfl qH rfl ?_
    refine Zfj rfl rfl (((hf.rd.imp qI).agN fcells_len (by omega) hB)) ?_
    refine Ziq rfl ?_; refine Zh7 (cs := (fcells fl[i]).toArray) (by omega) (by omega) (by exact fill_one (by show (fcells fl[i]).toArray.size = 6; rfl) rfl) ?_; intro b28; refine Zg3 ⟨fun _ => Imp.arr qV, ?_⟩
    refine Ziq rfl ?_
    refine Zia rfl rfl qH (Rd.cl (xs := fcells fl[i]) qH rfl qZ rfl) (by first|rfl|exact oneM_u8 _|exact oneL_u8 _|exact fc_one _|exact fc_ones _|exact tcells_one _|(simp [oneC]; done)) (by omega) qS ?_; intro a3 c3
    refine Zg3 ⟨(fun hh => Bool.noConfusion hh), ?_⟩
    refine Zim rfl (Zba rfl) ?_
    first|refine Zim rfl (Zl8 rfl) ?_|refine Zim rfl (Zce rfl) ?_
    refine Ziq rfl ?_
    refine Zhw rfl rfl qR qZ rfl ?_
    refine Zg3 ⟨(fun hh => Bool.noConfusion hh), ?_⟩
    refine Zik ?_
    refine Ct.o ?_
    refine Zgb ?_
    first|refine Zhg (Zat rfl) ?_|refine Zhg (Zar rfl) ?_
    first|refine Zhg (Zma (b := 1) rfl rfl) ?_|refine Zhg (Zbg rfl rfl) ?_
    first|refine Zhg (Zaz rfl) ?_|refine Zhg (Zas rfl) ?_
    refine Zg3 ?_
    refine Ct.o ?_
    have e : (fl.take i).flatMap fcells ++ fcells fl[i] = (fl.take (i + 1)).flatMap fcells := by rw [List.take_succ_eq_append_getElem hB, List.flatMap_append]; simp
    rw [e]
    exact Zgl (i + 1, a3, c3) qO ⟨by dsimp only; omega, kind_next fl i hB hkd (by omega) (by omega)⟩ qI ⟨rfl, trivial⟩
  · have hie : i = fl.length := by omega
    subst hie
    rw [List.take_length] at hkd ⊢
    refine Ct.o ?_
    refine Zgb ?_
    first|refine Zhg (Zav rfl) ?_|refine Zhg (Zar rfl) ?_
    first|refine Zhg (Za1 rfl) ?_|refine Zhg (Zas rfl) ?_
    first|refine Zhg (Zaz rfl) ?_|refine Zhg (Zas rfl) ?_
    refine Zg3 ?_
    refine Ct.o ?_
    refine rx2 (Zhb rfl (Zg9 rfl (Zg7))) ?_
    have hm : HostS.mayBe pages n fl := ⟨⟨by omega, by omega, by omega, by omega⟩, hkd⟩
    refine ⟨refA b27 (HostS.fresh pages (n : Int).toNat fl) fl :: L, ⟨fun _ => ⟨b27, rfl, rfl⟩, fun hh => absurd hm hh⟩, ?_⟩
    rw [Int.toNat_natCast]
    have hr := refA_mk (q := b27) (L := L) (fa := a) (fc := c) (wa := none) (wc := 0) (la := none) (lc := 0) (refok_fresh pages n fl ⟨by omega, by omega, by omega, by omega⟩ hf.ok hfl)
    have h0 : Imp (cl b27 (rcl pages n a fl.length c none 0 0 0#64 0 none 0 0 false) 93 :: own 28 6 (.slice a fl.length c) fl.length (fl.flatMap fcells) :: L) (star ownP ([] : List Part) :: own 97 2 (.slice none 0 0) 0 [] :: own 56 15 (.slice none 0 0) 0 [] :: cl b27 (rcl pages n a fl.length c none 0 0 0#64 0 none 0 0 false) 93 :: own 28 6 (.slice a fl.length c) fl.length (fl.flatMap fcells) :: L) :=
      (Imp.own_nil.trans Imp.own_nil).trans (Imp.app (L := []))
    exact (h0.trans (Imp.arr (by unfold refL; repeat (first|exact Arr.nil|exact Arr.stop|refine Arr.cons (by repeat constructor) ?_|refine Arr.skip ?_)))).trans hr
structure FBig (f : HostS.Fault) : Prop where
  at_ : -9223372036854775808 ≤ f.at_ ∧ f.at_ ≤ 9223372036854775807
  kind : -9223372036854775808 ≤ f.kind ∧ f.kind ≤ 9223372036854775807
  page : -9223372036854775808 ≤ f.page ∧ f.page ≤ 9223372036854775807
  byte : -9223372036854775808 ≤ f.byte ∧ f.byte ≤ 9223372036854775807
  back : -9223372036854775808 ≤ f.back ∧ f.back ≤ 9223372036854775807
def flits (f : HostS.Fault) : List Lit := [.int .i64 f.at_, .int .i64 f.kind, .int .i64 f.page, .int .i64 f.byte, .int .u8 (f.by_.toNat : Int), .int .i64 f.back]
theorem flits_is (f : HostS.Fault) (h : FBig f) : Try.prog.keyLits 4 28 (fcells f) = some (flits f) := by
  obtain ⟨at_, kind, page, byte, by_, back⟩ := f
  have c3 : Try.prog.cellsOf 3 = 1 := by kernel_rfl
  have c5 : Try.prog.cellsOf 5 = 1 := by kernel_rfl
  have c28 : Try.prog.cellsOf 28 = 6 := by kernel_rfl
  have i1 := lits_int (d := 2) Try.underlying3 (wf_i64 h.at_)
  have i2 := lits_int (d := 2) Try.underlying3 (wf_i64 h.kind)
  have i3 := lits_int (d := 2) Try.underlying3 (wf_i64 h.page)
  have i4 := lits_int (d := 2) Try.underlying3 (wf_i64 h.byte)
  have i5 := lits_int (d := 2) Try.underlying5 (byte_wf by_)
  have i6 := lits_int (d := 2) Try.underlying3 (wf_i64 h.back)
  unfold Program.keyLits
  rw [Try.underlying28]
  have hl : (fcells ⟨at_, kind, page, byte, by_, back⟩).length = 6 := rfl
  simp only [hl, c28, true_and]
  rw [if_pos (by simp)]
  simp only [List.mapM_cons, List.mapM_nil, fcells, c3, c5, List.drop_zero, List.drop_succ_cons, List.take_succ_cons, List.take_zero]
  simp only [i1, i2, i3, i4, i5, i6]
  simp [flits]
theorem fform (f : HostS.Fault) : (Value.agg (fcells f).toArray).formed Try.prog 28 = true := by
  have c28 : Try.prog.cellsOf 28 = 6 := by kernel_rfl
  simp [Value.formed, Try.underlying28, c28, fcells_len]
theorem flits_inj (a b : HostS.Fault) : a = b ↔ flits a = flits b := by
  constructor
  · rintro rfl; rfl
  · intro h
    obtain ⟨a1, a2, a3, a4, a5, a6⟩ := a
    obtain ⟨b1, b2, b3, b4, b5, b6⟩ := b
    simp only [flits, List.cons.injEq, Lit.int.injEq, true_and, and_true] at h
    obtain ⟨rfl, rfl, rfl, rfl, h, rfl⟩ := h
    rw [BitVec.eq_of_toNat_eq (Int.ofNat.inj h)]
theorem fault_eq_iff (a b : HostS.Fault) : (a.at_ = b.at_ ∧ a.kind = b.kind ∧ a.page = b.page ∧ a.byte = b.byte ∧ a.by_ = b.by_ ∧ a.back = b.back) ↔ a = b := by
  constructor
  · rintro ⟨h1, h2, h3, h4, h5, h6⟩
    cases a; cases b
    simp only at h1 h2 h3 h4 h5 h6
    rw [h1, h2, h3, h4, h5, h6]
  · rintro rfl
    exact ⟨rfl, rfl, rfl, rfl, rfl, rfl⟩
instance : DecidableEq HostS.Fault := fun a b => decidable_of_iff _ (fault_eq_iff a b)
theorem pv_neq_fault {ρ : Env} {x y : Operand} {T' : Nat} (a b : HostS.Fault) (ha : FBig a) (hb : FBig b) (hx : ev ρ x = .agg (fcells a).toArray) (hy : ev ρ y = .agg (fcells b).toArray) : PV Try.prog (.binOp .neq 28 x y T') ρ (.bool (decide (¬ a = b))) :=
  Zf7 (m := 4) hx hy (by kernel_rfl) (by omega) (by kernel_rfl) (fform a) (fform b) (flits_is a ha) (flits_is b hb) (flits_inj a b)
theorem exF_big (i : Nat) (hi : i ≤ 140737488351232) : FBig (exF i) := by
  unfold exF
  exact ⟨⟨by dsimp only; omega, by dsimp only; omega⟩, ⟨by show (-9223372036854775808 : Int) ≤ 3; omega, by show (3 : Int) ≤ _; omega⟩, ⟨by show (-9223372036854775808 : Int) ≤ 0; omega, by show (0 : Int) ≤ _; omega⟩, ⟨by show (-9223372036854775808 : Int) ≤ 0; omega, by show (0 : Int) ≤ _; omega⟩, ⟨by show (-9223372036854775808 : Int) ≤ 0; omega, by show (0 : Int) ≤ _; omega⟩⟩
theorem exL_at (l : List HostS.Fault) (i : Nat) (hi : i < (l ++ exL 5).length) (h : ¬ i < l.length) : (l ++ exL 5)[i] = exF (i - l.length) := by
  rw [List.getElem_append_right (by omega)]
  simp [exL]
theorem kept11_x {L : List Asrt} {fv : Value} {l : List HostS.Fault} {a : Option Addr} {c : Nat} (h : Rd L 6 fv l.length (l.flatMap fcells)) (hl : l.length * 48 ≤ 140737488351232) (hbig : ∀ f ∈ l, FBig f) :
    Con Try.prog 37 [.slice a l.length c, fv] (own 28 6 (.slice a (l ++ exL 5).length c) (l ++ exL 5).length ((l ++ exL 5).flatMap fcells) :: L) (fun r M => r = .bool true ∧ M = own 28 6 (.slice a (l ++ exL 5).length c) (l ++ exL 5).length ((l ++ exL 5).flatMap fcells) :: L) := by
  have h := h.imp (Imp.tail (A := own 28 6 (.slice a (l ++ exL 5).length c) (l ++ exL 5).length ((l ++ exL 5).flatMap fcells)))
  refine Con.get (fun w0 w F H => h.len H) ?_
  rintro ⟨fa, fc, rfl⟩
  have e5 : (l ++ exL 5).length = l.length + 5 := by simp [exL]
  refine Con.get (fun w0 w F H => own_cap (n := (l ++ exL 5).length) (c := c) .here H) ?_
  rintro ⟨hc, hcm⟩
  refine Con.get (fun w0 w F H => own_someN (n := (l ++ exL 5).length) (a := a) .here (by omega) H) ?_
  rintro ⟨g, rfl⟩
  have hr : Rd (own 28 6 (.slice (some ⟨g, 0, none⟩) (l ++ exL 5).length c) (l ++ exL 5).length ((l ++ exL 5).flatMap fcells) :: L) 6 (.slice (some ⟨g, 0, none⟩) (l ++ exL 5).length c) (l ++ exL 5).length ((l ++ exL 5).flatMap fcells) := Rd.own .here
  refine fn_x Try.func37 rfl rfl rfl Try.mixed (by kernel_rfl) ?_
  intro w0
  refine Ct.o ?_
  refine Zgb ?_
  first|refine Zhg (Za0 rfl) ?_|refine Zhg (Zas rfl) ?_
  refine Zg3 ?_
  refine Ct.o ?_
  refine Zgb ?_
  first|refine Zhg (Zaw rfl) ?_|refine Zhg (Zar rfl) ?_
  first|refine Zhg (Zaw rfl) ?_|refine Zhg (Zar rfl) ?_
  first|refine Zhg (Zcr rfl) ?_|refine Zhg (Zct) ?_|refine Zhg (Zcu rfl) ?_
  first|refine Zhg (Zma (b := 5) rfl rfl) ?_|refine Zhg (Zbg rfl rfl) ?_
  refine Zhg (Zm8 (h := (l ++ exL 5).length) rfl (by rw [e5]; rfl) (by omega)) ?_
  first|refine Zhg (Za2 rfl) ?_|refine Zhg (Zas rfl) ?_
  refine Zg3 ?_
  refine Ct.o ?_
  refine Zgb ?_
  first|refine Zhg (Zaz rfl) ?_|refine Zhg (Zas rfl) ?_
  refine Zg3 ?_
  refine Ct.o ?_
  refine Zgo [(4, 4), (6, 6), (12, 50)] (by kernel_rfl) (fun i : Nat => i ≤ (l ++ exL 5).length) (fun _ => own 28 6 (.slice (some ⟨g, 0, none⟩) (l ++ exL 5).length c) (l ++ exL 5).length ((l ++ exL 5).flatMap fcells) :: L) (fun i => [(6, nvv i)]) (fun i => (l ++ exL 5).length - i) 0 (Nat.zero_le _) qI ⟨rfl, trivial⟩ ?_
  intro i u hi
  refine Ct.o ?_
  refine Zgb ?_
  first|refine Zhg (Zat rfl) ?_|refine Zhg (Zar rfl) ?_
  first|refine Zhg (Zaw rfl) ?_|refine Zhg (Zar rfl) ?_
  first|refine Zhg (Zcr rfl) ?_|refine Zhg (Zct) ?_|refine Zhg (Zcu rfl) ?_
  first|refine Zhg (Zmf rfl rfl) ?_|refine Zhg (Zbn rfl rfl) ?_
  refine Zg3 ?_
  refine Ct.o ?_
  refine Zgg rfl (fun hB => ?_) (fun hB => ?_)
  · by_cases hil : i < l.length
    · have ei : (l ++ exL 5)[i] = l[i] := List.getElem_append_left hil
      have hb : FBig l[i] := hbig _ (List.getElem_mem hil)
      refine Zgt (fun F w H => h.someAt (by omega) H) ?_
      rintro ⟨s1, s2, rfl⟩
      refine Ct.o ?_
      refine Zij (_) [12] (.q 0 (.q 1 (.q 2 (.q 3 (.q 4 (.q 5 (.q 6 (.q 7 (.q 9 (.q 10 (.q 11 (.r 8 (.r 12 (.q 13 (.q 14 (.q 15 (.q 16 (.q 17 (.q 18 (.q 19 (.q 20 (.q 21 (.q 22 (.q 23 (.q 25 (.q 26 (.q 27 (.q 28 (.q 29 (.r 24 (.q 30 (.q 31 (.q 32 .nil))))))))))))))))))))))))))))))))) (by kernel_rfl) (by kernel_rfl) (Imp.refl _) ?_
      first|refine Zim rfl (Zat rfl) ?_|refine Zim rfl (Zar rfl) ?_
      first|refine Zim rfl (Zaw rfl) ?_|refine Zim rfl (Zar rfl) ?_
      first|refine Zim rfl (Zcr rfl) ?_|refine Zim rfl (Zct) ?_|refine Zim rfl (Zcu rfl) ?_
      first|refine Zim rfl (Zmf rfl rfl) ?_|refine Zim rfl (Zbn rfl rfl) ?_
      refine Zi5 21 rfl (decide_eq_true (hil)) ?_
      first|refine Zim rfl (Zau rfl) ?_|refine Zim rfl (Zar rfl) ?_
      first|refine Zio rfl rfl ?_|refine Zip rfl rfl ?_|refine Zin rfl rfl (Zaw rfl) ?_|refine Zin rfl rfl (Zar rfl) ?_
      first|refine Zio rfl rfl ?_|refine Zip rfl rfl ?_|refine Zin rfl rfl (Zat rfl) ?_|refine Zin rfl rfl (Zar rfl) ?_
      first|refine Zio rfl rfl ?_|refine Zip rfl rfl ?_|refine Zin rfl rfl (Zl6 rfl rfl) ?_|refine Zin rfl rfl (Zcg rfl rfl) ?_
      first|refine Zio rfl rfl ?_|refine Zip rfl rfl ?_|refine Zin rfl rfl (Zaw rfl) ?_|refine Zin rfl rfl (Zar rfl) ?_
      first|refine Zio rfl rfl ?_|refine Zip rfl rfl ?_|refine Zin rfl rfl (Zat rfl) ?_|refine Zin rfl rfl (Zar rfl) ?_
      first|refine Zio rfl rfl ?_|refine Zip rfl rfl ?_|refine Zin rfl rfl (Zl6 rfl rfl) ?_|refine Zin rfl rfl (Zcg rfl rfl) ?_
      first|refine Zi1 rfl rfl ?_|refine Zi2 rfl rfl ?_|refine Zfk rfl rfl rfl ((hr.agN0 fcells_len (by omega) hB)) ?_
      first|refine Zi1 rfl rfl ?_|refine Zi2 rfl rfl ?_|refine Zfk rfl rfl rfl ((h.agN fcells_len (by omega) hil)) ?_
      first|refine Zio rfl rfl ?_|refine Zip rfl rfl ?_|refine Zin rfl rfl (pv_neq_fault (l ++ exL 5)[i] l[i] (by rw [ei]; exact hb) hb rfl rfl) ?_
      refine Zi6 31 rfl (decide_eq_false (fun hh => hh ei)) ?_
      first|refine Zim rfl (Zdz rfl rfl) ?_|refine Zim rfl (Zd0 rfl rfl) ?_|refine Zim rfl (Za8 rfl rfl) ?_|refine Zim rfl (Za9 rfl rfl) ?_|refine Zim rfl (Za6 rfl rfl) ?_|refine Zim rfl (Za7 rfl rfl) ?_
      first|refine Zim rfl (Zau rfl) ?_|refine Zim rfl (Zar rfl) ?_
      first|refine Zio rfl rfl ?_|refine Zip rfl rfl ?_|refine Zin rfl rfl (Zat rfl) ?_|refine Zin rfl rfl (Zar rfl) ?_
      first|refine Zio rfl rfl ?_|refine Zip rfl rfl ?_|refine Zin rfl rfl (Zaw rfl) ?_|refine Zin rfl rfl (Zar rfl) ?_
      first|refine Zio rfl rfl ?_|refine Zip rfl rfl ?_|refine Zin rfl rfl (Zcr rfl) ?_|refine Zin rfl rfl (Zct) ?_|refine Zin rfl rfl (Zcu rfl) ?_
      first|refine Zio rfl rfl ?_|refine Zip rfl rfl ?_|refine Zin rfl rfl (Zmi rfl rfl) ?_|refine Zin rfl rfl (Zbq rfl rfl) ?_
      refine Zi6 37 rfl (decide_eq_false (by omega)) ?_
      first|refine Zio rfl rfl ?_|refine Zip rfl rfl ?_|refine Zin rfl rfl (Zau rfl) ?_|refine Zin rfl rfl (Zar rfl) ?_
      first|refine Zio rfl rfl ?_|refine Zip rfl rfl ?_|refine Zin rfl rfl (Zaw rfl) ?_|refine Zin rfl rfl (Zar rfl) ?_
      first|refine Zio rfl rfl ?_|refine Zip rfl rfl ?_|refine Zin rfl rfl (Zat rfl) ?_|refine Zin rfl rfl (Zar rfl) ?_
      first|refine Zio rfl rfl ?_|refine Zip rfl rfl ?_|refine Zin rfl rfl (Zl6 rfl rfl) ?_|refine Zin rfl rfl (Zcg rfl rfl) ?_
      first|refine Zio rfl rfl ?_|refine Zip rfl rfl ?_|refine Zin rfl rfl (Zat rfl) ?_|refine Zin rfl rfl (Zar rfl) ?_
      first|refine Zio rfl rfl ?_|refine Zip rfl rfl ?_|refine Zin rfl rfl (Zaw rfl) ?_|refine Zin rfl rfl (Zar rfl) ?_
      first|refine Zio rfl rfl ?_|refine Zip rfl rfl ?_|refine Zin rfl rfl (Zcr rfl) ?_|refine Zin rfl rfl (Zct) ?_|refine Zin rfl rfl (Zcu rfl) ?_
      first|refine Zio rfl rfl ?_|refine Zip rfl rfl ?_|refine Zin rfl rfl (Zmb rfl rfl) ?_|refine Zin rfl rfl (Zbh rfl rfl) ?_
      first|refine Zio rfl rfl ?_|refine Zip rfl rfl ?_|refine Zin rfl rfl (Zdm (cs := #[.int .i64 _, .int .i64 3, .int .i64 0, .int .i64 0, u8b 0#8, .int .i64 0]) rfl) ?_
      first|refine Zi1 rfl rfl ?_|refine Zi2 rfl rfl ?_|refine Zi4 rfl rfl rfl qH qZ ?_|refine Zi3 rfl rfl rfl qH qZ rfl ?_
      first|refine Zio rfl rfl ?_|refine Zip rfl rfl ?_|refine Zin rfl rfl (pv_neq_UNKNOWN_struct) ?_
      first|refine Zio rfl rfl ?_|refine Zip rfl rfl ?_|refine Zin rfl rfl (Zdz rfl rfl) ?_|refine Zin rfl rfl (Zd0 rfl rfl) ?_|refine Zin rfl rfl (Za8 rfl rfl) ?_|refine Zin rfl rfl (Za9 rfl rfl) ?_|refine Zin rfl rfl (Za6 rfl rfl) ?_|refine Zin rfl rfl (Za7 rfl rfl) ?_
      first|refine Zim rfl (Zdz rfl rfl) ?_|refine Zim rfl (Zd0 rfl rfl) ?_|refine Zim rfl (Za8 rfl rfl) ?_|refine Zim rfl (Za9 rfl rfl) ?_|refine Zim rfl (Za6 rfl rfl) ?_|refine Zim rfl (Za7 rfl rfl) ?_
      refine Zik ?_
      refine Ct.o ?_
      refine Zgf rfl ?_
      refine Ct.o ?_
      refine Zgb ?_
      first|refine Zhg (Zat rfl) ?_|refine Zhg (Zar rfl) ?_
      first|refine Zhg (Zma (b := 1) rfl rfl) ?_|refine Zhg (Zbg rfl rfl) ?_
      first|refine Zhg (Zaz rfl) ?_|refine Zhg (Zas rfl) ?_
      refine Zg3 ?_
      refine Ct.o ?_
      exact Zgl (i + 1) qO (by omega) qI ⟨rfl, trivial⟩
    · have ei := exL_at l i hB hil
      refine Ct.o ?_
      refine Zij (_) [12] (.q 0 (.q 1 (.q 2 (.q 3 (.q 4 (.q 5 (.q 6 (.q 7 (.q 9 (.q 10 (.q 11 (.r 8 (.r 12 (.q 13 (.q 14 (.q 15 (.q 16 (.q 17 (.q 18 (.q 19 (.q 20 (.q 21 (.q 22 (.q 23 (.q 25 (.q 26 (.q 27 (.q 28 (.q 29 (.r 24 (.q 30 (.q 31 (.q 32 .nil))))))))))))))))))))))))))))))))) (by kernel_rfl) (by kernel_rfl) (Imp.refl _) ?_
      first|refine Zim rfl (Zat rfl) ?_|refine Zim rfl (Zar rfl) ?_
      first|refine Zim rfl (Zaw rfl) ?_|refine Zim rfl (Zar rfl) ?_
      first|refine Zim rfl (Zcr rfl) ?_|refine Zim rfl (Zct) ?_|refine Zim rfl (Zcu rfl) ?_
      first|refine Zim rfl (Zmf rfl rfl) ?_|refine Zim rfl (Zbn rfl rfl) ?_
      refine Zi6 21 rfl (decide_eq_false (hil)) ?_
      first|refine Zim rfl (Zau rfl) ?_|refine Zim rfl (Zar rfl) ?_
      first|refine Zio rfl rfl ?_|refine Zip rfl rfl ?_|refine Zin rfl rfl (Zaw rfl) ?_|refine Zin rfl rfl (Zar rfl) ?_
      first|refine Zio rfl rfl ?_|refine Zip rfl rfl ?_|refine Zin rfl rfl (Zat rfl) ?_|refine Zin rfl rfl (Zar rfl) ?_
      first|refine Zio rfl rfl ?_|refine Zip rfl rfl ?_|refine Zin rfl rfl (Zl6 rfl rfl) ?_|refine Zin rfl rfl (Zcg rfl rfl) ?_
      first|refine Zio rfl rfl ?_|refine Zip rfl rfl ?_|refine Zin rfl rfl (Zaw rfl) ?_|refine Zin rfl rfl (Zar rfl) ?_
      first|refine Zio rfl rfl ?_|refine Zip rfl rfl ?_|refine Zin rfl rfl (Zat rfl) ?_|refine Zin rfl rfl (Zar rfl) ?_
      first|refine Zio rfl rfl ?_|refine Zip rfl rfl ?_|refine Zin rfl rfl (Zl6 rfl rfl) ?_|refine Zin rfl rfl (Zcg rfl rfl) ?_
      first|refine Zi1 rfl rfl ?_|refine Zi2 rfl rfl ?_|refine Zi4 rfl rfl rfl qH qZ ?_|refine Zi3 rfl rfl rfl qH qZ rfl ?_
      first|refine Zi1 rfl rfl ?_|refine Zi2 rfl rfl ?_|refine Zi4 rfl rfl rfl qH qZ ?_|refine Zi3 rfl rfl rfl qH qZ rfl ?_
      first|refine Zio rfl rfl ?_|refine Zip rfl rfl ?_|refine Zin rfl rfl (pv_neq_UNKNOWN_struct) ?_
      first|refine Zim rfl (Zdz rfl rfl) ?_|refine Zim rfl (Zd0 rfl rfl) ?_|refine Zim rfl (Za8 rfl rfl) ?_|refine Zim rfl (Za9 rfl rfl) ?_|refine Zim rfl (Za6 rfl rfl) ?_|refine Zim rfl (Za7 rfl rfl) ?_
      first|refine Zim rfl (Zau rfl) ?_|refine Zim rfl (Zar rfl) ?_
      first|refine Zio rfl rfl ?_|refine Zip rfl rfl ?_|refine Zin rfl rfl (Zat rfl) ?_|refine Zin rfl rfl (Zar rfl) ?_
      first|refine Zio rfl rfl ?_|refine Zip rfl rfl ?_|refine Zin rfl rfl (Zaw rfl) ?_|refine Zin rfl rfl (Zar rfl) ?_
      first|refine Zio rfl rfl ?_|refine Zip rfl rfl ?_|refine Zin rfl rfl (Zcr rfl) ?_|refine Zin rfl rfl (Zct) ?_|refine Zin rfl rfl (Zcu rfl) ?_
      first|refine Zio rfl rfl ?_|refine Zip rfl rfl ?_|refine Zin rfl rfl (Zmi rfl rfl) ?_|refine Zin rfl rfl (Zbq rfl rfl) ?_
      refine Zi5 37 rfl (decide_eq_true (by omega)) ?_
      first|refine Zio rfl rfl ?_|refine Zip rfl rfl ?_|refine Zin rfl rfl (Zau rfl) ?_|refine Zin rfl rfl (Zar rfl) ?_
      first|refine Zio rfl rfl ?_|refine Zip rfl rfl ?_|refine Zin rfl rfl (Zaw rfl) ?_|refine Zin rfl rfl (Zar rfl) ?_
      first|refine Zio rfl rfl ?_|refine Zip rfl rfl ?_|refine Zin rfl rfl (Zat rfl) ?_|refine Zin rfl rfl (Zar rfl) ?_
      first|refine Zio rfl rfl ?_|refine Zip rfl rfl ?_|refine Zin rfl rfl (Zl6 rfl rfl) ?_|refine Zin rfl rfl (Zcg rfl rfl) ?_
      first|refine Zio rfl rfl ?_|refine Zip rfl rfl ?_|refine Zin rfl rfl (Zat rfl) ?_|refine Zin rfl rfl (Zar rfl) ?_
      first|refine Zio rfl rfl ?_|refine Zip rfl rfl ?_|refine Zin rfl rfl (Zaw rfl) ?_|refine Zin rfl rfl (Zar rfl) ?_
      first|refine Zio rfl rfl ?_|refine Zip rfl rfl ?_|refine Zin rfl rfl (Zcr rfl) ?_|refine Zin rfl rfl (Zct) ?_|refine Zin rfl rfl (Zcu rfl) ?_
      first|refine Zio rfl rfl ?_|refine Zip rfl rfl ?_|refine Zin rfl rfl (Zmb rfl rfl) ?_|refine Zin rfl rfl (Zbh rfl rfl) ?_
      first|refine Zio rfl rfl ?_|refine Zip rfl rfl ?_|refine Zin rfl rfl (Zdm (cs := (fcells (exF (i - l.length))).toArray) rfl) ?_
      first|refine Zi1 rfl rfl ?_|refine Zi2 rfl rfl ?_|refine Zfk rfl rfl rfl ((hr.agN0 fcells_len (by omega) hB)) ?_
      first|refine Zio rfl rfl ?_|refine Zip rfl rfl ?_|refine Zin rfl rfl (pv_neq_fault (l ++ exL 5)[i] (exF (i - l.length)) (by rw [ei]; exact exF_big _ (by omega)) (exF_big _ (by omega)) rfl rfl) ?_
      refine Zi6 48 rfl (decide_eq_false (fun hh => hh ei)) ?_
      first|refine Zio rfl rfl ?_|refine Zip rfl rfl ?_|refine Zin rfl rfl (Zdz rfl rfl) ?_|refine Zin rfl rfl (Zd0 rfl rfl) ?_|refine Zin rfl rfl (Za8 rfl rfl) ?_|refine Zin rfl rfl (Za9 rfl rfl) ?_|refine Zin rfl rfl (Za6 rfl rfl) ?_|refine Zin rfl rfl (Za7 rfl rfl) ?_
      first|refine Zim rfl (Zdz rfl rfl) ?_|refine Zim rfl (Zd0 rfl rfl) ?_|refine Zim rfl (Za8 rfl rfl) ?_|refine Zim rfl (Za9 rfl rfl) ?_|refine Zim rfl (Za6 rfl rfl) ?_|refine Zim rfl (Za7 rfl rfl) ?_
      refine Zik ?_
      refine Ct.o ?_
      refine Zgf rfl ?_
      refine Ct.o ?_
      refine Zgb ?_
      first|refine Zhg (Zat rfl) ?_|refine Zhg (Zar rfl) ?_
      first|refine Zhg (Zma (b := 1) rfl rfl) ?_|refine Zhg (Zbg rfl rfl) ?_
      first|refine Zhg (Zaz rfl) ?_|refine Zhg (Zas rfl) ?_
      refine Zg3 ?_
      refine Ct.o ?_
      exact Zgl (i + 1) qO (by omega) qI ⟨rfl, trivial⟩
  · refine Ct.o ?_
    refine Zgb ?_
    first|refine Zhg (Za0 rfl) ?_|refine Zhg (Zas rfl) ?_
    refine Zg3 ?_
    refine Ct.o ?_
    refine rx1 (Zha rfl (Zg7)) ?_
    exact ⟨_, ⟨rfl, rfl⟩, qI⟩
end Go.Sl

/- the statements' small helpers: lists with marked room behind them. -/
set_option maxHeartbeats 4000000
set_option maxRecDepth 10000
set_option linter.unusedVariables false
set_option linter.unusedSimpArgs false
namespace Go.Sl
open Go Go.Proofs
attribute [local irreducible] cl pt own old pur ex all den denOps denS xOps xC cX CX xthen xblk xcut xloop xgo xng retX resX Calls PV Rd Con
def markB (i : Nat) : Byte := BitVec.ofInt 8 (IntKind.i64.wrap ((BitVec.ofInt IntKind.i64.bits 165 ^^^ BitVec.ofInt IntKind.i64.bits (i : Int)).toNat : Int))
def spF (l : List Byte) (j : Nat) : Byte := if j < l.length then l.getD j 0#8 else markB j
def spareL (l : List Byte) : List Byte := (List.range (l.length + 80)).map (spF l)
def uptoT (N : Nat) (f : Nat → Byte) (i : Nat) : List Byte := (List.range N).map fun j => if j < i then f j else 0#8
theorem uptoT_len (N : Nat) (f : Nat → Byte) (i : Nat) : (uptoT N f i).length = N := by simp [uptoT]
theorem uptoT_set (N : Nat) (f : Nat → Byte) (i : Nat) : (uptoT N f i).set i (f i) = uptoT N f (i + 1) := by
  apply List.ext_getElem (by simp [uptoT])
  intro j h1 h2
  simp only [uptoT, List.getElem_set, List.getElem_map, List.getElem_range]
  by_cases e : i = j
  · subst e; rw [if_pos rfl, if_pos (by omega)]
  · rw [if_neg e]
    by_cases h : j < i
    · rw [if_pos h, if_pos (by omega)]
    · rw [if_neg h, if_neg (by omega)]
theorem uptoT_zero (N : Nat) (f : Nat → Byte) : uptoT N f 0 = List.replicate N 0#8 := by
  apply List.ext_getElem (by simp [uptoT])
  intro j h1 h2
  simp [uptoT]
theorem uptoT_end (N : Nat) (f : Nat → Byte) : uptoT N f N = (List.range N).map f := by
  apply List.map_congr_left
  intro j hj
  rw [if_pos (by simpa using hj)]
theorem spareL_len (l : List Byte) : (spareL l).length = l.length + 80 := by simp [spareL]
theorem spareL_get (l : List Byte) (j : Nat) (h : j < l.length + 80) : (spareL l)[j]'(by rw [spareL_len]; exact h) = spF l j := by simp [spareL]
theorem spareL_take (l : List Byte) : (spareL l).take l.length = l := by
  apply List.ext_getElem (by rw [List.length_take, spareL_len]; omega)
  intro j h1 h2
  rw [List.getElem_take, spareL_get l j (by omega), spF, if_pos h2, List.getD_eq_getElem?_getD, List.getElem?_eq_getElem h2]; rfl
/-- A list that Spare made. -/
theorem bs_spare {M M' : List Asrt} {g : Nat} {l : List Byte} (hm : Has M (cl g ((spareL l).map u8b).toArray 5) M') (hl : l.length ≤ 140737488355328) : Bs M (.slice (some ⟨g, 0, none⟩) l.length (l.length + 80)) l :=
  Bs.cl (o := 0) hm (by rw [szL, spareL_len]; omega) (by
    simp only [Array.toList_extract, List.extract_eq_take_drop]
    rw [Nat.zero_add, Nat.sub_zero, List.drop_zero, ← List.map_take, spareL_take]) (by omega) (by omega)
theorem spare_x {L : List Asrt} {v : Value} {l : List Byte} (h : Bs L v l) (hl : l.length ≤ 140737488355328) : Con Try.prog 39 [v] L (fun r M => ∃ g, r = .slice (some ⟨g, 0, none⟩) l.length (l.length + 80) ∧ M = cl g ((spareL l).map u8b).toArray 5 :: L) := by
  refine Con.get (fun w0 w F H => h.sh _ _ _ H) ?_
  rintro ⟨aa, ac, rfl, hac, hacm⟩
  refine fn_x Try.func39 rfl rfl rfl Try.mixed (by kernel_rfl) ?_
  intro w0
  refine Ct.o ?_
  refine Zgb ?_
  first|refine Zhg (Za2 rfl) ?_|refine Zhg (Zas rfl) ?_
  refine Zg3 ?_
  refine Ct.o ?_
  refine Zgb ?_
  first|refine Zhg (Zaw rfl) ?_|refine Zhg (Zar rfl) ?_
  first|refine Zhg (Zcr rfl) ?_|refine Zhg (Zct) ?_|refine Zhg (Zcu rfl) ?_
  first|refine Zhg (Zma (b := 80) rfl rfl) ?_|refine Zhg (Zbg rfl rfl) ?_
  refine Zm3 (f := u8b) (a := 0#8) rfl rfl rfl qS qS qS ?_; intro b8
  first|refine Zhg (Za2 rfl) ?_|refine Zhg (Zas rfl) ?_
  refine Zg3 ?_
  refine Ct.o ?_
  refine Zgb ?_
  first|refine Zhg (Zaz rfl) ?_|refine Zhg (Zas rfl) ?_
  refine Zg3 ?_
  refine Ct.o ?_
  refine Zgo [(4, 4), (9, 31)] (by kernel_rfl) (fun i : Nat => i ≤ l.length + 80) (fun i => cl b8 ((uptoT (l.length + 80) (spF l) i).map u8b).toArray 5 :: L)
    (fun i => [(4, .int .i64 (i : Int))]) (fun i => l.length + 80 - i) 0 (by omega) (by rw [uptoT_zero]; exact Imp.arr (by repeat (first|exact Arr.nil|exact Arr.stop|refine Arr.cons (by repeat constructor) ?_|refine Arr.skip ?_))) ⟨rfl, trivial⟩ ?_
  intro i u hi
  have hul := uptoT_len (l.length + 80) (spF l) i
  refine Ct.o ?_
  refine Zgb ?_
  first|refine Zhg (Zat rfl) ?_|refine Zhg (Zar rfl) ?_
  first|refine Zhg (Zaw rfl) ?_|refine Zhg (Zar rfl) ?_
  first|refine Zhg (Zcr rfl) ?_|refine Zhg (Zct) ?_|refine Zhg (Zcu rfl) ?_
  first|refine Zhg (Zmf rfl rfl) ?_|refine Zhg (Zbn rfl rfl) ?_
  refine Zg3 ?_
  refine Ct.o ?_
  refine Zgg rfl (fun hB => ?_) (fun hB => ?_)
  · refine Ct.o ?_
    refine Zgb ?_
    first|refine Zhg (Zat rfl) ?_|refine Zhg (Zar rfl) ?_
    first|refine Zhg (Zaw rfl) ?_|refine Zhg (Zar rfl) ?_
    first|refine Zhg (Zcr rfl) ?_|refine Zhg (Zct) ?_|refine Zhg (Zcu rfl) ?_
    first|refine Zhg (Zmf rfl rfl) ?_|refine Zhg (Zbn rfl rfl) ?_
    refine Zg3 ?_
    refine Ct.o ?_
    refine Zgg rfl (fun hC => ?_) (fun hC => ?_)
    · have e : spF l i = l[i] := by rw [spF, if_pos hC, List.getD_eq_getElem?_getD, List.getElem?_eq_getElem hC]; rfl
      refine Zgt (fun F w H => (h.imp qI).some (by omega) H) ?_
      rintro ⟨a1, a2, rfl⟩
      refine Ct.o ?_
      refine Zgb ?_
      first|refine Zhg (Zaw rfl) ?_|refine Zhg (Zar rfl) ?_
      first|refine Zhg (Zat rfl) ?_|refine Zhg (Zar rfl) ?_
      first|refine Zhg (Zaw rfl) ?_|refine Zhg (Zar rfl) ?_
      first|refine Zhg (Zat rfl) ?_|refine Zhg (Zar rfl) ?_
      first|refine Zhg (Zl4 rfl rfl) ?_|refine Zhg (Zl1 rfl rfl) ?_
      refine Zic (j := i) rfl (h.rd.imp qI) hC (getM (f := u8b) hC) ?_
      first|refine Zhg (Zl4 rfl rfl) ?_|refine Zhg (Zl1 rfl rfl) ?_
      refine Zht rfl rfl qR qZ (setL (f := u8b) (l := uptoT (l.length + 80) (spF l) i)) ?_
      refine Zg3 ?_
      refine Ct.o ?_
      rw [← e, uptoT_set]
      refine Ct.o ?_
      refine Zgb ?_
      first|refine Zhg (Zat rfl) ?_|refine Zhg (Zar rfl) ?_
      first|refine Zhg (Zma (b := 1) rfl rfl) ?_|refine Zhg (Zbg rfl rfl) ?_
      first|refine Zhg (Zaz rfl) ?_|refine Zhg (Zas rfl) ?_
      refine Zg3 ?_
      refine Ct.o ?_
      exact Zgl (i + 1) qO qO qI ⟨rfl, trivial⟩
    · have e : spF l i = markB i := by rw [spF, if_neg hC]
      refine Ct.o ?_
      refine Zgb ?_
      first|refine Zhg (Zaw rfl) ?_|refine Zhg (Zar rfl) ?_
      first|refine Zhg (Zat rfl) ?_|refine Zhg (Zar rfl) ?_
      first|refine Zhg (Zat rfl) ?_|refine Zhg (Zar rfl) ?_
      first|refine Zhg (pv_xorn (a := 165) rfl rfl) ?_|refine Zhg (Zbw rfl rfl) ?_
      refine Zhg (Zjs rfl) ?_
      first|refine Zhg (Zl4 rfl rfl) ?_|refine Zhg (Zl1 rfl rfl) ?_
      refine Zht rfl rfl qR qZ (setL (f := u8b) (l := uptoT (l.length + 80) (spF l) i)) ?_
      refine Zg3 ?_
      refine Ct.o ?_
      rw [show BitVec.ofInt 8 (IntKind.i64.wrap ((BitVec.ofInt IntKind.i64.bits 165 ^^^ BitVec.ofInt IntKind.i64.bits (i : Int)).toNat : Int)) = spF l i from e.symm, uptoT_set]
      refine Ct.o ?_
      refine Zgb ?_
      first|refine Zhg (Zat rfl) ?_|refine Zhg (Zar rfl) ?_
      first|refine Zhg (Zma (b := 1) rfl rfl) ?_|refine Zhg (Zbg rfl rfl) ?_
      first|refine Zhg (Zaz rfl) ?_|refine Zhg (Zas rfl) ?_
      refine Zg3 ?_
      refine Ct.o ?_
      exact Zgl (i + 1) qO qO qI ⟨rfl, trivial⟩
  · have hie : i = l.length + 80 := by omega
    subst hie
    rw [uptoT_end]
    refine Ct.o ?_
    refine Zgb ?_
    first|refine Zhg (Zaw rfl) ?_|refine Zhg (Zar rfl) ?_
    first|refine Zhg (Zaw rfl) ?_|refine Zhg (Zar rfl) ?_
    first|refine Zhg (Zcr rfl) ?_|refine Zhg (Zct) ?_|refine Zhg (Zcu rfl) ?_
    refine Zhg (Zm0 rfl rfl) ?_
    first|refine Zhg (Za2 rfl) ?_|refine Zhg (Zas rfl) ?_
    refine Zg3 ?_
    refine Ct.o ?_
    refine rx1 (Zhc rfl (Zg7)) ?_
    exact ⟨_, ⟨b8, rfl, rfl⟩, by exact Imp.arr (by repeat (first|exact Arr.nil|exact Arr.stop|refine Arr.cons (by repeat constructor) ?_|refine Arr.skip ?_))⟩
theorem kept_r {L : List Asrt} {g : Nat} {vw : Value} {w : List Byte} (hrd : Rd L 1 (.slice (some ⟨g, 0, none⟩) (w.length + 80) (w.length + 80)) (w.length + 80) ((spareL w).map u8b)) (hb : Bs L (.slice (some ⟨g, 0, none⟩) w.length (w.length + 80)) w) (hw : Bs L vw w) (hl : w.length ≤ 140737488355328) :
    Con Try.prog 41 [.slice (some ⟨g, 0, none⟩) w.length (w.length + 80), vw] L (fun r M => r = .bool true ∧ L = M) := by
  refine Con.get (fun w0 w F H => hw.sh _ _ _ H) ?_
  rintro ⟨ba, bc, rfl, hbc, hbcm⟩
  have hsl := spareL_len w
  refine fn_x Try.func41 rfl rfl rfl Try.mixed (by kernel_rfl) ?_
  intro w0
  refine Ct.o ?_
  refine Zgb ?_
  first|refine Zhg (Za0 rfl) ?_|refine Zhg (Zas rfl) ?_
  refine Zg3 ?_
  refine Ct.o ?_
  refine Zgb ?_
  first|refine Zhg (Zaw rfl) ?_|refine Zhg (Zar rfl) ?_
  first|refine Zhg (Zaw rfl) ?_|refine Zhg (Zar rfl) ?_
  refine Zh8 rfl (by kernel_rfl) (eqBytes_x hb hw) rfl qT ?_
  rintro _ _ ⟨rfl, rfl⟩
  refine Zg2 qA ?_
  first|refine Zhg (Zb1 rfl) ?_|refine Zhg (Zb0 rfl) ?_
  refine Zhn 10 rfl (by simp) ?_
  refine Zg3 ?_
  refine Ct.o ?_
  refine Zgf rfl ?_
  refine Ct.o ?_
  refine Zgb ?_
  first|refine Zhg (Zaw rfl) ?_|refine Zhg (Zar rfl) ?_
  first|refine Zhg (Zaw rfl) ?_|refine Zhg (Zar rfl) ?_
  first|refine Zhg (Zcr rfl) ?_|refine Zhg (Zct) ?_|refine Zhg (Zcu rfl) ?_
  first|refine Zhg (Zma (b := 80) rfl rfl) ?_|refine Zhg (Zbg rfl rfl) ?_
  refine Zhg (Zm0 (h := w.length + 80) rfl rfl (by omega)) ?_
  first|refine Zhg (Za2 rfl) ?_|refine Zhg (Zas rfl) ?_
  refine Zg3 ?_
  refine Ct.o ?_
  refine Zgb ?_
  first|refine Zhg (Zaw rfl) ?_|refine Zhg (Zar rfl) ?_
  first|refine Zhg (Zcr rfl) ?_|refine Zhg (Zct) ?_|refine Zhg (Zcu rfl) ?_
  first|refine Zhg (Zaz rfl) ?_|refine Zhg (Zas rfl) ?_
  refine Zg3 ?_
  refine Ct.o ?_
  refine Zgo [(4, 4), (6, 6), (18, 31)] (by kernel_rfl) (fun i : Nat => w.length ≤ i ∧ i ≤ w.length + 80) (fun _ => L) (fun i => [(6, .int .i64 (i : Int))]) (fun i => w.length + 80 - i) w.length (by omega) (Imp.refl _) ⟨rfl, trivial⟩ ?_
  rintro i u ⟨hi0, hi⟩
  refine Ct.o ?_
  refine Zgb ?_
  first|refine Zhg (Zat rfl) ?_|refine Zhg (Zar rfl) ?_
  first|refine Zhg (Zaw rfl) ?_|refine Zhg (Zar rfl) ?_
  first|refine Zhg (Zcr rfl) ?_|refine Zhg (Zct) ?_|refine Zhg (Zcu rfl) ?_
  first|refine Zhg (Zmf rfl rfl) ?_|refine Zhg (Zbn rfl rfl) ?_
  refine Zg3 ?_
  refine Ct.o ?_
  refine Zgg rfl (fun hB => ?_) (fun hB => ?_)
  · have hg : ((spareL w).map u8b)[i]? = some (u8b (markB i)) := by
      rw [getM (by omega), spareL_get w i hB, spF, if_neg (by omega)]
    refine Ct.o ?_
    refine Zgb ?_
    first|refine Zhg (Zaw rfl) ?_|refine Zhg (Zar rfl) ?_
    first|refine Zhg (Zat rfl) ?_|refine Zhg (Zar rfl) ?_
    first|refine Zhg (Zl4 rfl rfl) ?_|refine Zhg (Zl1 rfl rfl) ?_
    refine Zm6 (j := i) rfl hrd hB hg ?_
    first|refine Zhg (Zat rfl) ?_|refine Zhg (Zar rfl) ?_
    first|refine Zhg (pv_xorn (a := 165) rfl rfl) ?_|refine Zhg (Zbw rfl rfl) ?_
    refine Zhg (Zjs rfl) ?_
    refine Zhg (Zjl (x := markB i) (y := markB i) rfl rfl) ?_
    refine Zhn 31 rfl (decide_eq_false (fun h => h rfl)) ?_
    refine Zg3 ?_
    refine Ct.o ?_
    refine Zgf rfl ?_
    refine Ct.o ?_
    refine Zgb ?_
    first|refine Zhg (Zat rfl) ?_|refine Zhg (Zar rfl) ?_
    first|refine Zhg (Zma (b := 1) rfl rfl) ?_|refine Zhg (Zbg rfl rfl) ?_
    first|refine Zhg (Zaz rfl) ?_|refine Zhg (Zas rfl) ?_
    refine Zg3 ?_
    refine Ct.o ?_
    exact Zgl (i + 1) qO ⟨by omega, by omega⟩ qI ⟨rfl, trivial⟩
  · refine Ct.o ?_
    refine Zgb ?_
    first|refine Zhg (Za0 rfl) ?_|refine Zhg (Zas rfl) ?_
    refine Zg3 ?_
    refine Ct.o ?_
    refine rx1 (Zha rfl (Zg7)) ?_
    exact ⟨_, ⟨rfl, rfl⟩, by exact Imp.arr (by repeat (first|exact Arr.nil|exact Arr.stop|refine Arr.cons (by repeat constructor) ?_|refine Arr.skip ?_))⟩
theorem rd_spare {L L' : List Asrt} {g : Nat} {w : List Byte} (hm : Has L (cl g ((spareL w).map u8b).toArray 5) L') : Rd L 1 (.slice (some ⟨g, 0, none⟩) (w.length + 80) (w.length + 80)) (w.length + 80) ((spareL w).map u8b) := by
  have hsl := spareL_len w
  exact Rd.cl (o := 0) hm (by simp [hsl]) (by rw [szL]; omega) (by simp only [Array.toList_extract, List.extract_eq_take_drop, Nat.zero_add, Nat.mul_one, Nat.sub_zero, List.drop_zero]; exact List.take_of_length_le (by simp [hsl]))
theorem kept_x {L L' : List Asrt} {g : Nat} {vw : Value} {w : List Byte} (hm : Has L (cl g ((spareL w).map u8b).toArray 5) L') (hw : Bs L vw w) (hl : w.length ≤ 140737488355328) :
    Con Try.prog 41 [.slice (some ⟨g, 0, none⟩) w.length (w.length + 80), vw] L (fun r M => r = .bool true ∧ L = M) := kept_r (rd_spare hm) (bs_spare hm hl) hw hl
end Go.Sl

/- trystlaw11: made, step, walked. -/
set_option maxHeartbeats 4000000
set_option maxRecDepth 10000
set_option linter.unusedVariables false
set_option linter.unusedSimpArgs false
namespace Go.Sl
open Go Go.Proofs
attribute [local irreducible] cl pt own old pur ex all den denOps denS xOps xC cX CX xthen xblk xcut xloop xgo xng retX resX Calls PV Rd Con
attribute [local irreducible] hostA HostS.readR HostS.writeR HostS.askR HostS.raiseR HostS.liesR refA ocells
abbrev tv (b : Bool) (p : Nat) : Value := cond b (hp p) (.pointer none)
/-- A host by both, if there is one. -/
def twoA (b : Bool) (ph q : Nat) (s : HostS.HS) (fl : List HostS.Fault) : Asrt := all (cond b [hostA ph s, refA q s fl] [])
theorem x_refA {q : Nat} {s : HostS.HS} {fl : List HostS.Fault} {w0 : World} {c : Code} {ρ : Env} {Q : XQ} {L : List Asrt} (h : ∀ (wl : List Wr) (fa : Option Addr) (fc : Nat) (wa : Option Addr) (wc : Nat) (la : Option Addr) (lc : Nat), RefOk s fl wl → xC Try.prog w0 c ρ (refL q s fl wl fa fc wa wc la lc ++ L) Q) : xC Try.prog w0 c ρ (refA q s fl :: L) Q := by
  unfold refA
  exact Zgr fun t => Zgs (L := pur (RefOk s fl t.2.2.2) :: refL q s fl t.2.2.2 t.1.1 t.1.2 t.2.1.1 t.2.1.2 t.2.2.1.1 t.2.2.1.2) (Zgq fun hk => h t.2.2.2 t.1.1 t.1.2 t.2.1.1 t.2.1.2 t.2.2.1.1 t.2.2.1.2 hk)
theorem made_x {L : List Asrt} {pages size : Int} {fv sv : Value} {fl : List HostS.Fault} (b : Bool) (hb : b = true ↔ HostS.mayBe pages size fl) (hf : FaultsIn L fv fl) (hbig : ∀ f ∈ fl, FBig f) :
    Con Try.prog 24 [.agg (lfc pages size fv sv)] L (fun r M => ∃ ph q, r = .tuple #[tv b ph, tv b q, .bool true] ∧ M = twoA b ph q (HostS.fresh pages size.toNat fl) fl :: L) := by
  refine Con.get (fun w0 w F H => hf.rd.len H) ?_
  rintro ⟨fa, fc, rfl⟩
  have hfl := hf.len
  have hrn := rNew_x pages size hf
  have hkp := fun a c => kept11_x (a := a) (c := c) hf.rd hfl hbig
  cases b with
  | true =>
    have hmay := hb.1 rfl
    have hn1 := fun a1 c1 => new_ok (L := [own 28 6 (.slice a1 (fl ++ exL 5).length c1) (fl ++ exL 5).length ((fl ++ exL 5).flatMap fcells)]) pages size (fl := fl) (by omega) hf.ok (rd_faults .here) hmay
    have hrn := hrn.mono (fun r M h => ⟨M, Imp.refl _, h.1 hmay⟩)
    refine fn_x Try.func24 rfl rfl rfl Try.mixed (by kernel_rfl) ?_
    intro w0
    refine Ct.o ?_
    refine Zgb ?_
    refine Zh5 rfl ?_; intro b1
    first|refine Zhg (Za1 rfl) ?_|refine Zhg (Zas rfl) ?_
    first|refine Zhg (Za1 rfl) ?_|refine Zhg (Zas rfl) ?_
    first|refine Zhg (Za0 rfl) ?_|refine Zhg (Zas rfl) ?_
    refine Zg3 ?_
    refine Ct.o ?_
    refine Zgb ?_
    first|refine Zhg (Zl8 rfl) ?_|refine Zhg (Zce rfl) ?_
    refine Zhp rfl qH rfl ?_
    refine Zh8 rfl (by kernel_rfl) (faults_x (L := L) hf.rd hfl) rfl qT ?_
    rintro _ _ ⟨a1, c1, rfl, rfl⟩
    refine Zg2 qA ?_
    first|refine Zhg (Za2 rfl) ?_|refine Zhg (Zas rfl) ?_
    refine Zg3 ?_
    refine Ct.o ?_
    refine Zgb ?_
    first|refine Zhg (Zl8 rfl) ?_|refine Zhg (Zce rfl) ?_
    refine Zhp rfl qH rfl ?_
    first|refine Zhg (Zl8 rfl) ?_|refine Zhg (Zce rfl) ?_
    refine Zhp rfl qH rfl ?_
    first|refine Zhg (Zaw rfl) ?_|refine Zhg (Zar rfl) ?_
    refine Zh8 rfl (by kernel_rfl) (hn1 a1 c1) rfl qT ?_
    rintro _ _ ⟨ph, rfl, rfl⟩
    refine Zg2 qA ?_
    first|refine Zhg (Zmm rfl) ?_|refine Zhg (Zar rfl) ?_
    refine Zhg (Zco rfl rfl) ?_
    refine Zhg (Zco rfl rfl) ?_
    first|refine Zhg (Za1 rfl) ?_|refine Zhg (Zas rfl) ?_
    first|refine Zhg (Zaz rfl) ?_|refine Zhg (Zas rfl) ?_
    refine Zg3 ?_
    refine Ct.o ?_
    refine Zgb ?_
    first|refine Zhg (Zl8 rfl) ?_|refine Zhg (Zce rfl) ?_
    refine Zhp rfl qH rfl ?_
    first|refine Zhg (Zl8 rfl) ?_|refine Zhg (Zce rfl) ?_
    refine Zhp rfl qH rfl ?_
    first|refine Zhg (Zl8 rfl) ?_|refine Zhg (Zce rfl) ?_
    refine Zhp rfl qH rfl ?_
    refine Zh8 rfl (by kernel_rfl) (hrn) rfl qT ?_
    rintro _ _ ⟨q, rfl, rfl⟩
    refine Zg2 qA ?_
    first|refine Zhg (Zmm rfl) ?_|refine Zhg (Zar rfl) ?_
    refine Zhg (Zco rfl rfl) ?_
    refine Zhg (Zco rfl rfl) ?_
    first|refine Zhg (Za1 rfl) ?_|refine Zhg (Zas rfl) ?_
    first|refine Zhg (Zaz rfl) ?_|refine Zhg (Zas rfl) ?_
    refine Zg3 ?_
    refine Ct.o ?_
    refine Zgb ?_
    first|refine Zhg (Zat rfl) ?_|refine Zhg (Zar rfl) ?_
    first|refine Zhg (Zat rfl) ?_|refine Zhg (Zar rfl) ?_
    first|refine Zhg (Zmj rfl rfl) ?_|refine Zhg (Zbr rfl rfl) ?_
    refine Zhm 36 rfl (decide_eq_true (rfl)) ?_
    first|refine Zhg (Zau rfl) ?_|refine Zhg (Zar rfl) ?_
    first|refine Zhi rfl ?_|refine Zhj rfl ?_|(refine Zhh rfl ?_; (first|refine Zhg (Zav rfl) ?_|refine Zhg (Zar rfl) ?_))
    first|refine Zhi rfl ?_|refine Zhj rfl ?_|(refine Zhh rfl ?_; (refine Zhg (Zca rfl rfl) ?_))
    refine Zhn 39 rfl (rfl) ?_
    first|refine Zhi rfl ?_|refine Zhj rfl ?_|(refine Zhh rfl ?_; (first|refine Zhg (Zav rfl) ?_|refine Zhg (Zar rfl) ?_))
    first|refine Zhi rfl ?_|refine Zhj rfl ?_|(refine Zhh rfl ?_; (refine Zhg (Zca rfl rfl) ?_))
    refine Zhn 41 rfl (rfl) ?_
    first|refine Zhi rfl ?_|refine Zhj rfl ?_|(refine Zhh rfl ?_; (refine Zhg (Zb7 rfl rfl) ?_))
    refine Zhm 42 rfl (rfl) ?_
    first|refine Zhg (Zdz rfl rfl) ?_|refine Zhg (Zd0 rfl rfl) ?_|refine Zhg (Za8 rfl rfl) ?_|refine Zhg (Za9 rfl rfl) ?_|refine Zhg (Za6 rfl rfl) ?_|refine Zhg (Za7 rfl rfl) ?_
    first|refine Zhg (Zau rfl) ?_|refine Zhg (Zar rfl) ?_
    first|refine Zhi rfl ?_|refine Zhj rfl ?_|(refine Zhh rfl ?_; (first|refine Zhg (Zaw rfl) ?_|refine Zhg (Zar rfl) ?_))
    first|refine Zhi rfl ?_|refine Zhj rfl ?_|(refine Zhh rfl ?_; (first|refine Zhg (Zl8 rfl) ?_|refine Zhg (Zce rfl) ?_))
    first|refine Zhi rfl ?_|refine Zhj rfl ?_|(refine Zhh rfl ?_; (refine Zhp rfl qH rfl ?_))
    first|refine Zhi rfl ?_|refine Zhj rfl ?_|(refine Zhh rfl ?_; (refine Zh8 rfl (by kernel_rfl) (hkp a1 c1) rfl qT ?_); (rintro _ _ ⟨rfl, rfl⟩); (refine Zg2 qA ?_))
    refine Zhm 48 rfl (rfl) ?_
    first|refine Zhg (Zdz rfl rfl) ?_|refine Zhg (Zd0 rfl rfl) ?_|refine Zhg (Za8 rfl rfl) ?_|refine Zhg (Za9 rfl rfl) ?_|refine Zhg (Za6 rfl rfl) ?_|refine Zhg (Za7 rfl rfl) ?_
    first|refine Zhg (Za0 rfl) ?_|refine Zhg (Zas rfl) ?_
    refine Zg3 ?_
    refine Ct.o ?_
    refine Zgb ?_
    first|refine Zhg (Zaz rfl) ?_|refine Zhg (Zas rfl) ?_
    refine Zg3 ?_
    refine Ct.o ?_
    have ht := own_takeN (E := 28) (sz := 6) (n := (fl ++ exL 5).length) (m := fl.length) (c := c1) (a := a1) (xs := (fl ++ exL 5).flatMap fcells) (M := hostA ph (HostS.fresh pages size.toNat fl) :: refA q (HostS.fresh pages size.toNat fl) fl :: L) (by simp)
    refine Zgp ((Imp.arr (N := own 28 6 (.slice a1 (fl ++ exL 5).length c1) (fl ++ exL 5).length ((fl ++ exL 5).flatMap fcells) :: hostA ph (HostS.fresh pages size.toNat fl) :: refA q (HostS.fresh pages size.toNat fl) fl :: L) qV).trans ht) ?_
    refine Zgo [(11, 11), (50, 60)] (by kernel_rfl) (fun s : Nat × List Value => s.1 ≤ fl.length ∧ s.2.length = fl.length * 6) (fun s => own 28 6 (.slice a1 fl.length c1) fl.length s.2 :: hostA ph (HostS.fresh pages size.toNat fl) :: refA q (HostS.fresh pages size.toNat fl) fl :: L) (fun s => [(11, nvv s.1)]) (fun s => fl.length - s.1) (0, ((fl ++ exL 5).flatMap fcells).take (fl.length * 6)) ⟨Nat.zero_le _, by dsimp only; rw [List.length_take, List.length_flatMap]; simp [fcells_len, List.map_const']⟩ qI ⟨rfl, trivial⟩ ?_
    rintro ⟨i, xs⟩ u ⟨hi, hxl⟩
    dsimp only at hi hxl ⊢
    refine Ct.o ?_
    refine Zgb ?_
    first|refine Zhg (Zat rfl) ?_|refine Zhg (Zar rfl) ?_
    first|refine Zhg (Zaw rfl) ?_|refine Zhg (Zar rfl) ?_
    first|refine Zhg (Zcr rfl) ?_|refine Zhg (Zct) ?_|refine Zhg (Zcu rfl) ?_
    first|refine Zhg (Zmf rfl rfl) ?_|refine Zhg (Zbn rfl rfl) ?_
    refine Zg3 ?_
    refine Ct.o ?_
    refine Zgg rfl (fun hB => ?_) (fun hB => ?_)
    · refine Zgt (fun F w H => own_someN (n := fl.length) (a := a1) qH (by omega) H) ?_
      rintro ⟨g, rfl⟩
      obtain ⟨ys, hys⟩ : ∃ ys, ys = (wr xs.toArray (i * 6) (fcells (exF i))).toList := ⟨_, rfl⟩
      have hyl : ys.length = fl.length * 6 := by rw [hys, Array.length_toList, wr_size, List.size_toArray, hxl]
      refine Ct.o ?_
      refine Zgb ?_
      first|refine Zhg (Zaw rfl) ?_|refine Zhg (Zar rfl) ?_
      first|refine Zhg (Zat rfl) ?_|refine Zhg (Zar rfl) ?_
      first|refine Zhg (Zat rfl) ?_|refine Zhg (Zar rfl) ?_
      refine Zhg (Zdm (cs := (fcells (exF i)).toArray) rfl) ?_
      first|refine Zhg (Zl6 rfl rfl) ?_|refine Zhg (Zcg rfl rfl) ?_
      refine Zn0 (m := 6) (xs := xs) (ys := ys) rfl rfl rfl (fc_one _) qR (by omega) hys.symm ?_
      refine Zg3 ?_
      refine Ct.o ?_
      refine Zgb ?_
      first|refine Zhg (Zat rfl) ?_|refine Zhg (Zar rfl) ?_
      first|refine Zhg (Zma (b := 1) rfl rfl) ?_|refine Zhg (Zbg rfl rfl) ?_
      first|refine Zhg (Zaz rfl) ?_|refine Zhg (Zas rfl) ?_
      refine Zg3 ?_
      refine Ct.o ?_
      exact Zgl (i + 1, ys) qO ⟨by dsimp only; omega, hyl⟩ qI ⟨rfl, trivial⟩
    · refine Ct.o ?_
      refine Zgb ?_
      first|refine Zhg (Zav rfl) ?_|refine Zhg (Zar rfl) ?_
      first|refine Zhg (Zav rfl) ?_|refine Zhg (Zar rfl) ?_
      first|refine Zhg (Zau rfl) ?_|refine Zhg (Zar rfl) ?_
      first|refine Zhg (Za1 rfl) ?_|refine Zhg (Zas rfl) ?_
      first|refine Zhg (Za1 rfl) ?_|refine Zhg (Zas rfl) ?_
      first|refine Zhg (Za0 rfl) ?_|refine Zhg (Zas rfl) ?_
      refine Zg3 ?_
      refine Ct.o ?_
      refine rx3 (Zhb rfl (Zhb rfl (Zha rfl (Zg7)))) ?_
      exact ⟨_, ⟨ph, q, rfl, rfl⟩, (Imp.arr (N := [hostA ph (HostS.fresh pages size.toNat fl), refA q (HostS.fresh pages size.toNat fl) fl] ++ L) qV).trans (Imp.app (L := [hostA ph (HostS.fresh pages size.toNat fl), refA q (HostS.fresh pages size.toNat fl) fl]))⟩
  | false =>
    have hmay : ¬ HostS.mayBe pages size fl := fun h => Bool.noConfusion (hb.2 h)
    have hn1 := fun a1 c1 => new_no (L := [own 28 6 (.slice a1 (fl ++ exL 5).length c1) (fl ++ exL 5).length ((fl ++ exL 5).flatMap fcells)]) pages size (fl := fl) (by omega) hf.ok (rd_faults .here) hmay
    have hrn := hrn.mono (Ψ := fun r M => r = .tuple #[.pointer none, nvv 2] ∧ L = M) (fun r M h => ⟨M, Imp.refl _, (h.2 hmay).1, (h.2 hmay).2.symm⟩)
    refine fn_x Try.func24 rfl rfl rfl Try.mixed (by kernel_rfl) ?_
    intro w0
    refine Ct.o ?_
    refine Zgb ?_
    refine Zh5 rfl ?_; intro b1
    first|refine Zhg (Za1 rfl) ?_|refine Zhg (Zas rfl) ?_
    first|refine Zhg (Za1 rfl) ?_|refine Zhg (Zas rfl) ?_
    first|refine Zhg (Za0 rfl) ?_|refine Zhg (Zas rfl) ?_
    refine Zg3 ?_
    refine Ct.o ?_
    refine Zgb ?_
    first|refine Zhg (Zl8 rfl) ?_|refine Zhg (Zce rfl) ?_
    refine Zhp rfl qH rfl ?_
    refine Zh8 rfl (by kernel_rfl) (faults_x (L := L) hf.rd hfl) rfl qT ?_
    rintro _ _ ⟨a1, c1, rfl, rfl⟩
    refine Zg2 qA ?_
    first|refine Zhg (Za2 rfl) ?_|refine Zhg (Zas rfl) ?_
    refine Zg3 ?_
    refine Ct.o ?_
    refine Zgb ?_
    first|refine Zhg (Zl8 rfl) ?_|refine Zhg (Zce rfl) ?_
    refine Zhp rfl qH rfl ?_
    first|refine Zhg (Zl8 rfl) ?_|refine Zhg (Zce rfl) ?_
    refine Zhp rfl qH rfl ?_
    first|refine Zhg (Zaw rfl) ?_|refine Zhg (Zar rfl) ?_
    refine Zh8 rfl (by kernel_rfl) (hn1 a1 c1) rfl qT ?_
    rintro _ _ ⟨rfl, rfl⟩
    refine Zg2 qA ?_
    first|refine Zhg (Zmm rfl) ?_|refine Zhg (Zar rfl) ?_
    refine Zhg (Zco rfl rfl) ?_
    refine Zhg (Zco rfl rfl) ?_
    first|refine Zhg (Za1 rfl) ?_|refine Zhg (Zas rfl) ?_
    first|refine Zhg (Zaz rfl) ?_|refine Zhg (Zas rfl) ?_
    refine Zg3 ?_
    refine Ct.o ?_
    refine Zgb ?_
    first|refine Zhg (Zl8 rfl) ?_|refine Zhg (Zce rfl) ?_
    refine Zhp rfl qH rfl ?_
    first|refine Zhg (Zl8 rfl) ?_|refine Zhg (Zce rfl) ?_
    refine Zhp rfl qH rfl ?_
    first|refine Zhg (Zl8 rfl) ?_|refine Zhg (Zce rfl) ?_
    refine Zhp rfl qH rfl ?_
    refine Zh8 rfl (by kernel_rfl) (hrn) rfl qT ?_
    rintro _ _ ⟨rfl, rfl⟩
    refine Zg2 qA ?_
    first|refine Zhg (Zmm rfl) ?_|refine Zhg (Zar rfl) ?_
    refine Zhg (Zco rfl rfl) ?_
    refine Zhg (Zco rfl rfl) ?_
    first|refine Zhg (Za1 rfl) ?_|refine Zhg (Zas rfl) ?_
    first|refine Zhg (Zaz rfl) ?_|refine Zhg (Zas rfl) ?_
    refine Zg3 ?_
    refine Ct.o ?_
    refine Zgb ?_
    first|refine Zhg (Zat rfl) ?_|refine Zhg (Zar rfl) ?_
    first|refine Zhg (Zat rfl) ?_|refine Zhg (Zar rfl) ?_
    first|refine Zhg (Zmj rfl rfl) ?_|refine Zhg (Zbr rfl rfl) ?_
    refine Zhm 36 rfl (decide_eq_true (rfl)) ?_
    first|refine Zhg (Zau rfl) ?_|refine Zhg (Zar rfl) ?_
    first|refine Zhi rfl ?_|refine Zhj rfl ?_|(refine Zhh rfl ?_; (first|refine Zhg (Zav rfl) ?_|refine Zhg (Zar rfl) ?_))
    first|refine Zhi rfl ?_|refine Zhj rfl ?_|(refine Zhh rfl ?_; (refine Zhg (Zca rfl rfl) ?_))
    refine Zhm 39 rfl (rfl) ?_
    first|refine Zhi rfl ?_|refine Zhj rfl ?_|(refine Zhh rfl ?_; (first|refine Zhg (Zav rfl) ?_|refine Zhg (Zar rfl) ?_))
    first|refine Zhi rfl ?_|refine Zhj rfl ?_|(refine Zhh rfl ?_; (refine Zhg (Zca rfl rfl) ?_))
    refine Zhm 41 rfl (rfl) ?_
    first|refine Zhi rfl ?_|refine Zhj rfl ?_|(refine Zhh rfl ?_; (refine Zhg (Zb7 rfl rfl) ?_))
    refine Zhm 42 rfl (rfl) ?_
    first|refine Zhg (Zdz rfl rfl) ?_|refine Zhg (Zd0 rfl rfl) ?_|refine Zhg (Za8 rfl rfl) ?_|refine Zhg (Za9 rfl rfl) ?_|refine Zhg (Za6 rfl rfl) ?_|refine Zhg (Za7 rfl rfl) ?_
    first|refine Zhg (Zau rfl) ?_|refine Zhg (Zar rfl) ?_
    first|refine Zhi rfl ?_|refine Zhj rfl ?_|(refine Zhh rfl ?_; (first|refine Zhg (Zaw rfl) ?_|refine Zhg (Zar rfl) ?_))
    first|refine Zhi rfl ?_|refine Zhj rfl ?_|(refine Zhh rfl ?_; (first|refine Zhg (Zl8 rfl) ?_|refine Zhg (Zce rfl) ?_))
    first|refine Zhi rfl ?_|refine Zhj rfl ?_|(refine Zhh rfl ?_; (refine Zhp rfl qH rfl ?_))
    first|refine Zhi rfl ?_|refine Zhj rfl ?_|(refine Zhh rfl ?_; (refine Zh8 rfl (by kernel_rfl) (hkp a1 c1) rfl qT ?_); (rintro _ _ ⟨rfl, rfl⟩); (refine Zg2 qA ?_))
    refine Zhm 48 rfl (rfl) ?_
    first|refine Zhg (Zdz rfl rfl) ?_|refine Zhg (Zd0 rfl rfl) ?_|refine Zhg (Za8 rfl rfl) ?_|refine Zhg (Za9 rfl rfl) ?_|refine Zhg (Za6 rfl rfl) ?_|refine Zhg (Za7 rfl rfl) ?_
    first|refine Zhg (Za0 rfl) ?_|refine Zhg (Zas rfl) ?_
    refine Zg3 ?_
    refine Ct.o ?_
    refine Zgb ?_
    first|refine Zhg (Zaz rfl) ?_|refine Zhg (Zas rfl) ?_
    refine Zg3 ?_
    refine Ct.o ?_
    have ht := own_takeN (E := 28) (sz := 6) (n := (fl ++ exL 5).length) (m := fl.length) (c := c1) (a := a1) (xs := (fl ++ exL 5).flatMap fcells) (M := L) (by simp)
    refine Zgp ((Imp.arr (N := own 28 6 (.slice a1 (fl ++ exL 5).length c1) (fl ++ exL 5).length ((fl ++ exL 5).flatMap fcells) :: L) qV).trans ht) ?_
    refine Zgo [(11, 11), (50, 60)] (by kernel_rfl) (fun s : Nat × List Value => s.1 ≤ fl.length ∧ s.2.length = fl.length * 6) (fun s => own 28 6 (.slice a1 fl.length c1) fl.length s.2 :: L) (fun s => [(11, nvv s.1)]) (fun s => fl.length - s.1) (0, ((fl ++ exL 5).flatMap fcells).take (fl.length * 6)) ⟨Nat.zero_le _, by dsimp only; rw [List.length_take, List.length_flatMap]; simp [fcells_len, List.map_const']⟩ qI ⟨rfl, trivial⟩ ?_
    rintro ⟨i, xs⟩ u ⟨hi, hxl⟩
    dsimp only at hi hxl ⊢
    refine Ct.o ?_
    refine Zgb ?_
    first|refine Zhg (Zat rfl) ?_|refine Zhg (Zar rfl) ?_
    first|refine Zhg (Zaw rfl) ?_|refine Zhg (Zar rfl) ?_
    first|refine Zhg (Zcr rfl) ?_|refine Zhg (Zct) ?_|refine Zhg (Zcu rfl) ?_
    first|refine Zhg (Zmf rfl rfl) ?_|refine Zhg (Zbn rfl rfl) ?_
    refine Zg3 ?_
    refine Ct.o ?_
    refine Zgg rfl (fun hB => ?_) (fun hB => ?_)
    · refine Zgt (fun F w H => own_someN (n := fl.length) (a := a1) qH (by omega) H) ?_
      rintro ⟨g, rfl⟩
      obtain ⟨ys, hys⟩ : ∃ ys, ys = (wr xs.toArray (i * 6) (fcells (exF i))).toList := ⟨_, rfl⟩
      have hyl : ys.length = fl.length * 6 := by rw [hys, Array.length_toList, wr_size, List.size_toArray, hxl]
      refine Ct.o ?_
      refine Zgb ?_
      first|refine Zhg (Zaw rfl) ?_|refine Zhg (Zar rfl) ?_
      first|refine Zhg (Zat rfl) ?_|refine Zhg (Zar rfl) ?_
      first|refine Zhg (Zat rfl) ?_|refine Zhg (Zar rfl) ?_
      refine Zhg (Zdm (cs := (fcells (exF i)).toArray) rfl) ?_
      first|refine Zhg (Zl6 rfl rfl) ?_|refine Zhg (Zcg rfl rfl) ?_
      refine Zn0 (m := 6) (xs := xs) (ys := ys) rfl rfl rfl (fc_one _) qR (by omega) hys.symm ?_
      refine Zg3 ?_
      refine Ct.o ?_
      refine Zgb ?_
      first|refine Zhg (Zat rfl) ?_|refine Zhg (Zar rfl) ?_
      first|refine Zhg (Zma (b := 1) rfl rfl) ?_|refine Zhg (Zbg rfl rfl) ?_
      first|refine Zhg (Zaz rfl) ?_|refine Zhg (Zas rfl) ?_
      refine Zg3 ?_
      refine Ct.o ?_
      exact Zgl (i + 1, ys) qO ⟨by dsimp only; omega, hyl⟩ qI ⟨rfl, trivial⟩
    · refine Ct.o ?_
      refine Zgb ?_
      first|refine Zhg (Zav rfl) ?_|refine Zhg (Zar rfl) ?_
      first|refine Zhg (Zav rfl) ?_|refine Zhg (Zar rfl) ?_
      first|refine Zhg (Zau rfl) ?_|refine Zhg (Zar rfl) ?_
      first|refine Zhg (Za1 rfl) ?_|refine Zhg (Zas rfl) ?_
      first|refine Zhg (Za1 rfl) ?_|refine Zhg (Zas rfl) ?_
      first|refine Zhg (Za0 rfl) ?_|refine Zhg (Zas rfl) ?_
      refine Zg3 ?_
      refine Ct.o ?_
      refine rx3 (Zhb rfl (Zhb rfl (Zha rfl (Zg7)))) ?_
      exact ⟨_, ⟨0, 0, rfl, rfl⟩, (Imp.arr (N := [] ++ L) qV).trans (Imp.app (L := []))⟩
theorem step_g {L : List Asrt} {ph q : Nat} {s : HostS.HS} {fl : List HostS.Fault} (t : HostS.Step) {dv : Value} (hb : Bs L dv t.data) (hdl : t.data.length ≤ 140737488351232) (hops : s.ops < 3298534883328) (hlog : LogOk s) :
    Con Try.prog 25 [hp ph, hp q, .agg (stc t dv)] (hostA ph s :: refA q s fl :: L) (fun r M => r = .bool true ∧ M = hostA ph (HostS.toldR s t).2 :: refA q (HostS.toldR s t).2 fl :: L) := by
  refine Con.get (fun w0 w F H => (hb.imp (Imp.tail.trans Imp.tail)).sh _ _ _ H) ?_
  rintro ⟨da, dc, rfl, _, _⟩
  by_cases h1 : t.do_ = 1
  · have e : HostS.toldR s t = (((HostS.readR s t.page).1, 0#64, (HostS.readR s t.page).2.1), (HostS.readR s t.page).2.2) := by unfold HostS.toldR; rw [if_pos h1]
    rw [e]
    refine fn_x Try.func25 rfl rfl rfl Try.mixed (by kernel_rfl) ?_
    intro w0
    refine Ct.o ?_
    refine Zgb ?_
    refine Zh5 rfl ?_; intro b5
    first|refine Zhg (Za0 rfl) ?_|refine Zhg (Zas rfl) ?_
    refine Zg3 ?_
    refine Ct.o ?_
    refine Zgb ?_
    first|refine Zhg (Zl8 rfl) ?_|refine Zhg (Zce rfl) ?_
    refine Zhp rfl qH rfl ?_
    refine Zg3 ?_
    refine Ct.o ?_
    refine Zgb ?_
    first|refine Zhg (Zmj (b := 1) rfl rfl) ?_|refine Zhg (Zbr rfl rfl) ?_
    refine Zhm 26 rfl (decide_eq_true (h1)) ?_
    first|refine Zhg (Za0 rfl) ?_|refine Zhg (Zas rfl) ?_
    refine Zg3 ?_
    refine Ct.o ?_
    refine Zge rfl ?_
    refine Ct.o ?_
    refine Zgb ?_
    first|refine Zhg (Zav rfl) ?_|refine Zhg (Zar rfl) ?_
    first|refine Zhg (Zl8 rfl) ?_|refine Zhg (Zce rfl) ?_
    refine Zhp rfl qH rfl ?_
    refine Zh8 rfl (by kernel_rfl) (read_x t.page hops) rfl qT ?_
    rintro _ _ ⟨a1, k1, rfl, rfl⟩
    refine Zg2 qA ?_
    first|refine Zhg (Zmm rfl) ?_|refine Zhg (Zar rfl) ?_
    refine Zhg (Zco rfl rfl) ?_
    refine Zhg (Zco rfl rfl) ?_
    first|refine Zhg (Za2 rfl) ?_|refine Zhg (Zas rfl) ?_
    first|refine Zhg (Zaz rfl) ?_|refine Zhg (Zas rfl) ?_
    refine Zg3 ?_
    refine Ct.o ?_
    refine Zgb ?_
    first|refine Zhg (Zav rfl) ?_|refine Zhg (Zar rfl) ?_
    first|refine Zhg (Zl8 rfl) ?_|refine Zhg (Zce rfl) ?_
    refine Zhp rfl qH rfl ?_
    refine Zh8 rfl (by kernel_rfl) (ra_read t.page hops) rfl qT ?_
    rintro _ _ ⟨a2, k2, rfl, rfl⟩
    refine Zg2 qA ?_
    first|refine Zhg (Zmm rfl) ?_|refine Zhg (Zar rfl) ?_
    refine Zhg (Zco rfl rfl) ?_
    refine Zhg (Zco rfl rfl) ?_
    first|refine Zhg (Za2 rfl) ?_|refine Zhg (Zas rfl) ?_
    first|refine Zhg (Zaz rfl) ?_|refine Zhg (Zas rfl) ?_
    refine Zg3 ?_
    refine Ct.o ?_
    refine Zgb ?_
    first|refine Zhg (Zat rfl) ?_|refine Zhg (Zar rfl) ?_
    first|refine Zhg (Zat rfl) ?_|refine Zhg (Zar rfl) ?_
    first|refine Zhg (Zmk rfl rfl) ?_|refine Zhg (Zbs rfl rfl) ?_
    refine Zhn 43 rfl (decide_eq_false ((fun h => h rfl))) ?_
    first|refine Zhg (Zau rfl) ?_|refine Zhg (Zar rfl) ?_
    first|refine Zhi rfl ?_|refine Zhj rfl ?_|(refine Zhh rfl ?_; (first|refine Zhg (Zaw rfl) ?_|refine Zhg (Zar rfl) ?_))
    first|refine Zhi rfl ?_|refine Zhj rfl ?_|(refine Zhh rfl ?_; (first|refine Zhg (Zaw rfl) ?_|refine Zhg (Zar rfl) ?_))
    first|refine Zhi rfl ?_|refine Zhj rfl ?_|(refine Zhh rfl ?_; (refine Zh8 rfl (by kernel_rfl) (eqBytes_x (L := [ownB a1 k1 (HostS.readR s t.page).1, ownB a2 k2 (HostS.readR s t.page).1]) (Bs.own .here) (Bs.own (.there .here))) rfl qT ?_); (rintro _ _ ⟨rfl, rfl⟩); (refine Zg2 qA ?_))
    refine Zhm 47 rfl (decide_eq_true (rfl)) ?_
    first|refine Zhi rfl ?_|refine Zhj rfl ?_|(refine Zhh rfl ?_; (refine Zhg (Zb0 rfl) ?_))
    refine Zhn 48 rfl (rfl) ?_
    first|refine Zhg (Zdz rfl rfl) ?_|refine Zhg (Zd0 rfl rfl) ?_|refine Zhg (Za8 rfl rfl) ?_|refine Zhg (Za9 rfl rfl) ?_|refine Zhg (Za6 rfl rfl) ?_|refine Zhg (Za7 rfl rfl) ?_
    refine Zg3 ?_
    refine Ct.o ?_
    refine Zgf rfl ?_
    refine Ct.o ?_
    refine Zgb ?_
    first|refine Zhg (Zaz rfl) ?_|refine Zhg (Zas rfl) ?_
    refine Zg3 ?_
    refine Ct.o ?_
    refine Zgt (fun F w H => own_cap (n := (HostS.readR s t.page).1.length) (c := k1) qH H) ?_
    rintro ⟨hc1, hc2⟩
    refine Zgo [(11, 11), (50, 63)] (by kernel_rfl) (fun z : Nat × List Byte => z.1 ≤ (HostS.readR s t.page).1.length ∧ z.2.length = (HostS.readR s t.page).1.length) (fun z => own 5 1 (.slice a1 (HostS.readR s t.page).1.length k1) (HostS.readR s t.page).1.length (z.2.map u8b) :: hostA ph (HostS.readR s t.page).2.2 :: refA q (HostS.readR s t.page).2.2 fl :: L) (fun z => [(11, nvv z.1)]) (fun z => (HostS.readR s t.page).1.length - z.1) (0, (HostS.readR s t.page).1) ⟨Nat.zero_le _, rfl⟩ qI ⟨rfl, trivial⟩ ?_
    rintro ⟨k, T⟩ u ⟨hk, hT⟩
    dsimp only at hk hT ⊢
    refine Ct.o ?_
    refine Zgb ?_
    first|refine Zhg (Zat rfl) ?_|refine Zhg (Zar rfl) ?_
    first|refine Zhg (Zaw rfl) ?_|refine Zhg (Zar rfl) ?_
    first|refine Zhg (Zcr rfl) ?_|refine Zhg (Zct) ?_|refine Zhg (Zcu rfl) ?_
    first|refine Zhg (Zmf rfl rfl) ?_|refine Zhg (Zbn rfl rfl) ?_
    refine Zg3 ?_
    refine Ct.o ?_
    refine Zgg rfl (fun hB => ?_) (fun hB => ?_)
    · refine Zgt (fun F w H => own_some (n := (HostS.readR s t.page).1.length) (a := a1) qH (by omega) H) ?_
      rintro ⟨gc, hgc⟩
      try rw [hgc]
      have hg2 : (T.map u8b)[k]? = some (u8b (T[k]'(by omega))) := by rw [List.getElem?_map, List.getElem?_eq_getElem (by omega)]; rfl
      refine Ct.o ?_
      refine Zgb ?_
      first|refine Zhg (Zaw rfl) ?_|refine Zhg (Zar rfl) ?_
      first|refine Zhg (Zat rfl) ?_|refine Zhg (Zar rfl) ?_
      first|refine Zhg (Zaw rfl) ?_|refine Zhg (Zar rfl) ?_
      first|refine Zhg (Zat rfl) ?_|refine Zhg (Zar rfl) ?_
      first|refine Zhg (Zl4 rfl rfl) ?_|refine Zhg (Zl1 rfl rfl) ?_
      refine Zff rfl (((Rd.own (n := (HostS.readR s t.page).1.length) qH).at0 hB hg2)) ?_
      refine Zhg (Zje (y := 255#8) rfl rfl) ?_
      first|refine Zhg (Zl4 rfl rfl) ?_|refine Zhg (Zl1 rfl rfl) ?_
      refine Zm7 (u := u8b (T[k]'(by omega) ^^^ 255#8)) (i := k) (xs := T.map u8b) (ys := (T.set k (T[k]'(by omega) ^^^ 255#8)).map u8b) rfl rfl rfl qR hB (by rw [List.map_set]) ?_
      refine Zg3 ?_
      refine Ct.o ?_
      refine Zgb ?_
      first|refine Zhg (Zat rfl) ?_|refine Zhg (Zar rfl) ?_
      first|refine Zhg (Zma (b := 1) rfl rfl) ?_|refine Zhg (Zbg rfl rfl) ?_
      first|refine Zhg (Zaz rfl) ?_|refine Zhg (Zas rfl) ?_
      refine Zg3 ?_
      refine Ct.o ?_
      exact Zgl (k + 1, T.set k (T[k]'(by omega) ^^^ 255#8)) qO ⟨by dsimp only; omega, by dsimp only; rw [List.length_set]; exact hT⟩ qI ⟨rfl, trivial⟩
    · refine Ct.o ?_
      refine Zgb ?_
      first|refine Zhg (Za0 rfl) ?_|refine Zhg (Zas rfl) ?_
      refine Zg3 ?_
      refine Ct.o ?_
      refine rx1 (Zha rfl (Zg7)) ?_
      exact ⟨_, ⟨rfl, rfl⟩, qI⟩
  by_cases h2 : t.do_ = 2
  · have e : HostS.toldR s t = (([], 0#64, (HostS.writeR s t.page t.data).1), (HostS.writeR s t.page t.data).2) := by unfold HostS.toldR; rw [if_neg h1, if_pos h2]
    rw [e]
    refine fn_x Try.func25 rfl rfl rfl Try.mixed (by kernel_rfl) ?_
    intro w0
    refine Ct.o ?_
    refine Zgb ?_
    refine Zh5 rfl ?_; intro b5
    first|refine Zhg (Za0 rfl) ?_|refine Zhg (Zas rfl) ?_
    refine Zg3 ?_
    refine Ct.o ?_
    refine Zgb ?_
    first|refine Zhg (Zl8 rfl) ?_|refine Zhg (Zce rfl) ?_
    refine Zhp rfl qH rfl ?_
    refine Zg3 ?_
    refine Ct.o ?_
    refine Zgb ?_
    first|refine Zhg (Zmj (b := 1) rfl rfl) ?_|refine Zhg (Zbr rfl rfl) ?_
    refine Zhn 26 rfl (decide_eq_false (h1)) ?_
    first|refine Zhg (Za0 rfl) ?_|refine Zhg (Zas rfl) ?_
    refine Zg3 ?_
    refine Ct.o ?_
    refine Zgf rfl ?_
    refine Ct.o ?_
    refine Zgb ?_
    first|refine Zhg (Zmj (b := 2) rfl rfl) ?_|refine Zhg (Zbr rfl rfl) ?_
    refine Zhm 65 rfl (decide_eq_true (h2)) ?_
    first|refine Zhg (Za0 rfl) ?_|refine Zhg (Zas rfl) ?_
    refine Zg3 ?_
    refine Ct.o ?_
    refine Zge rfl ?_
    refine Ct.o ?_
    refine Zgb ?_
    first|refine Zhg (Zl8 rfl) ?_|refine Zhg (Zce rfl) ?_
    refine Zhp rfl qH rfl ?_
    refine Zh8 rfl (by kernel_rfl) (spare_x (L := L) hb (by omega)) rfl qT ?_
    rintro _ _ ⟨g, rfl, rfl⟩
    refine Zg2 qA ?_
    first|refine Zhg (Za2 rfl) ?_|refine Zhg (Zas rfl) ?_
    refine Zg3 ?_
    refine Ct.o ?_
    refine Zgb ?_
    first|refine Zhg (Zav rfl) ?_|refine Zhg (Zar rfl) ?_
    first|refine Zhg (Zl8 rfl) ?_|refine Zhg (Zce rfl) ?_
    refine Zhp rfl qH rfl ?_
    first|refine Zhg (Zaw rfl) ?_|refine Zhg (Zar rfl) ?_
    refine Zh8 rfl (by kernel_rfl) (write_x (L := [cl g ((spareL t.data).map u8b).toArray 5]) t.page (bs_spare .here (by omega)) hops (by omega)) rfl qT ?_
    rintro _ _ ⟨rfl, rfl⟩
    refine Zg2 qA ?_
    first|refine Zhg (Zaz rfl) ?_|refine Zhg (Zas rfl) ?_
    refine Zg3 ?_
    refine Ct.o ?_
    refine Zgb ?_
    first|refine Zhg (Zat rfl) ?_|refine Zhg (Zar rfl) ?_
    first|refine Zhg (Zav rfl) ?_|refine Zhg (Zar rfl) ?_
    first|refine Zhg (Zl8 rfl) ?_|refine Zhg (Zce rfl) ?_
    refine Zhp rfl qH rfl ?_
    first|refine Zhg (Zl8 rfl) ?_|refine Zhg (Zce rfl) ?_
    refine Zhp rfl qH rfl ?_
    refine Zh8 rfl (by kernel_rfl) (ra_write (L := L) t.page hb hdl hops) rfl qT ?_
    rintro _ _ ⟨rfl, rfl⟩
    refine Zg2 qA ?_
    first|refine Zhg (Zmk rfl rfl) ?_|refine Zhg (Zbs rfl rfl) ?_
    refine Zhn 81 rfl (decide_eq_false ((fun h => h rfl))) ?_
    first|refine Zhg (Zau rfl) ?_|refine Zhg (Zar rfl) ?_
    first|refine Zhi rfl ?_|refine Zhj rfl ?_|(refine Zhh rfl ?_; (first|refine Zhg (Zaw rfl) ?_|refine Zhg (Zar rfl) ?_))
    first|refine Zhi rfl ?_|refine Zhj rfl ?_|(refine Zhh rfl ?_; (first|refine Zhg (Zl8 rfl) ?_|refine Zhg (Zce rfl) ?_))
    first|refine Zhi rfl ?_|refine Zhj rfl ?_|(refine Zhh rfl ?_; (refine Zhp rfl qH rfl ?_))
    first|refine Zhi rfl ?_|refine Zhj rfl ?_|(refine Zhh rfl ?_; (refine Zh8 rfl (by kernel_rfl) (kept_x (L := cl g ((spareL t.data).map u8b).toArray 5 :: L) .here (hb.imp Imp.tail) (by omega)) rfl qT ?_); (rintro _ _ ⟨rfl, rfl⟩); (refine Zg2 qA ?_))
    first|refine Zhi rfl ?_|refine Zhj rfl ?_|(refine Zhh rfl ?_; (refine Zhg (Zb0 rfl) ?_))
    refine Zhn 87 rfl (rfl) ?_
    first|refine Zhg (Zdz rfl rfl) ?_|refine Zhg (Zd0 rfl rfl) ?_|refine Zhg (Za8 rfl rfl) ?_|refine Zhg (Za9 rfl rfl) ?_|refine Zhg (Za6 rfl rfl) ?_|refine Zhg (Za7 rfl rfl) ?_
    refine Zg3 ?_
    refine Ct.o ?_
    refine Zgf rfl ?_
    refine Ct.o ?_
    have hspl := spareL_len t.data
    refine Zgp ((Imp.arr (N := cl g ((spareL t.data).map u8b).toArray 5 :: hostA ph (HostS.writeR s t.page t.data).2 :: refA q (HostS.writeR s t.page t.data).2 fl :: L) qV).trans (Imp.own_mk (E := 5) (size := 1) (n := t.data.length) (cap := t.data.length + 80) (xs := t.data.map u8b) (by omega) (by omega) (by simp [hspl]) (by rw [Nat.mul_one]; show ((spareL t.data).map u8b).take _ = _; rw [← List.map_take, spareL_take]))) ?_
    refine Ct.o ?_
    refine Zgb ?_
    first|refine Zhg (Zaz rfl) ?_|refine Zhg (Zas rfl) ?_
    refine Zg3 ?_
    refine Ct.o ?_
    refine Zgt (fun F w H => own_cap (n := t.data.length) (c := (t.data.length + 80)) qH H) ?_
    rintro ⟨hc1, hc2⟩
    refine Zgo [(14, 14), (89, 102)] (by kernel_rfl) (fun z : Nat × List Byte => z.1 ≤ t.data.length ∧ z.2.length = t.data.length) (fun z => own 5 1 (.slice (some ⟨g, 0, none⟩) t.data.length (t.data.length + 80)) t.data.length (z.2.map u8b) :: hostA ph (HostS.writeR s t.page t.data).2 :: refA q (HostS.writeR s t.page t.data).2 fl :: L) (fun z => [(14, nvv z.1)]) (fun z => t.data.length - z.1) (0, t.data) ⟨Nat.zero_le _, rfl⟩ qI ⟨rfl, trivial⟩ ?_
    rintro ⟨k, T⟩ u ⟨hk, hT⟩
    dsimp only at hk hT ⊢
    refine Ct.o ?_
    refine Zgb ?_
    first|refine Zhg (Zat rfl) ?_|refine Zhg (Zar rfl) ?_
    first|refine Zhg (Zaw rfl) ?_|refine Zhg (Zar rfl) ?_
    first|refine Zhg (Zcr rfl) ?_|refine Zhg (Zct) ?_|refine Zhg (Zcu rfl) ?_
    first|refine Zhg (Zmf rfl rfl) ?_|refine Zhg (Zbn rfl rfl) ?_
    refine Zg3 ?_
    refine Ct.o ?_
    refine Zgg rfl (fun hB => ?_) (fun hB => ?_)
    · refine Zgt (fun F w H => own_some (n := t.data.length) (a := (some ⟨g, 0, none⟩)) qH (by omega) H) ?_
      rintro ⟨gc, hgc⟩
      try rw [hgc]
      have hg2 : (T.map u8b)[k]? = some (u8b (T[k]'(by omega))) := by rw [List.getElem?_map, List.getElem?_eq_getElem (by omega)]; rfl
      refine Ct.o ?_
      refine Zgb ?_
      first|refine Zhg (Zaw rfl) ?_|refine Zhg (Zar rfl) ?_
      first|refine Zhg (Zat rfl) ?_|refine Zhg (Zar rfl) ?_
      first|refine Zhg (Zaw rfl) ?_|refine Zhg (Zar rfl) ?_
      first|refine Zhg (Zat rfl) ?_|refine Zhg (Zar rfl) ?_
      first|refine Zhg (Zl4 rfl rfl) ?_|refine Zhg (Zl1 rfl rfl) ?_
      refine Zff rfl (((Rd.own (n := t.data.length) qH).at0 hB hg2)) ?_
      refine Zhg (Zje (y := 255#8) rfl rfl) ?_
      first|refine Zhg (Zl4 rfl rfl) ?_|refine Zhg (Zl1 rfl rfl) ?_
      refine Zm7 (u := u8b (T[k]'(by omega) ^^^ 255#8)) (i := k) (xs := T.map u8b) (ys := (T.set k (T[k]'(by omega) ^^^ 255#8)).map u8b) rfl rfl rfl qR hB (by rw [List.map_set]) ?_
      refine Zg3 ?_
      refine Ct.o ?_
      refine Zgb ?_
      first|refine Zhg (Zat rfl) ?_|refine Zhg (Zar rfl) ?_
      first|refine Zhg (Zma (b := 1) rfl rfl) ?_|refine Zhg (Zbg rfl rfl) ?_
      first|refine Zhg (Zaz rfl) ?_|refine Zhg (Zas rfl) ?_
      refine Zg3 ?_
      refine Ct.o ?_
      exact Zgl (k + 1, T.set k (T[k]'(by omega) ^^^ 255#8)) qO ⟨by dsimp only; omega, by dsimp only; rw [List.length_set]; exact hT⟩ qI ⟨rfl, trivial⟩
    · refine Ct.o ?_
      refine Zgb ?_
      first|refine Zhg (Za0 rfl) ?_|refine Zhg (Zas rfl) ?_
      refine Zg3 ?_
      refine Ct.o ?_
      refine rx1 (Zha rfl (Zg7)) ?_
      exact ⟨_, ⟨rfl, rfl⟩, qI⟩
  by_cases h3 : t.do_ = 3
  · have e : HostS.toldR s t = (([], (HostS.askR s).1, (HostS.askR s).2.1), (HostS.askR s).2.2) := by unfold HostS.toldR; rw [if_neg h1, if_neg h2, if_pos h3]
    rw [e]
    refine fn_x Try.func25 rfl rfl rfl Try.mixed (by kernel_rfl) ?_
    intro w0
    refine Ct.o ?_
    refine Zgb ?_
    refine Zh5 rfl ?_; intro b5
    first|refine Zhg (Za0 rfl) ?_|refine Zhg (Zas rfl) ?_
    refine Zg3 ?_
    refine Ct.o ?_
    refine Zgb ?_
    first|refine Zhg (Zl8 rfl) ?_|refine Zhg (Zce rfl) ?_
    refine Zhp rfl qH rfl ?_
    refine Zg3 ?_
    refine Ct.o ?_
    refine Zgb ?_
    first|refine Zhg (Zmj (b := 1) rfl rfl) ?_|refine Zhg (Zbr rfl rfl) ?_
    refine Zhn 26 rfl (decide_eq_false (h1)) ?_
    first|refine Zhg (Za0 rfl) ?_|refine Zhg (Zas rfl) ?_
    refine Zg3 ?_
    refine Ct.o ?_
    refine Zgf rfl ?_
    refine Ct.o ?_
    refine Zgb ?_
    first|refine Zhg (Zmj (b := 2) rfl rfl) ?_|refine Zhg (Zbr rfl rfl) ?_
    refine Zhn 65 rfl (decide_eq_false (h2)) ?_
    first|refine Zhg (Za0 rfl) ?_|refine Zhg (Zas rfl) ?_
    refine Zg3 ?_
    refine Ct.o ?_
    refine Zgf rfl ?_
    refine Ct.o ?_
    refine Zgb ?_
    first|refine Zhg (Zmj (b := 3) rfl rfl) ?_|refine Zhg (Zbr rfl rfl) ?_
    refine Zhm 104 rfl (decide_eq_true (h3)) ?_
    first|refine Zhg (Za0 rfl) ?_|refine Zhg (Zas rfl) ?_
    refine Zg3 ?_
    refine Ct.o ?_
    refine Zge rfl ?_
    refine Ct.o ?_
    refine Zgb ?_
    first|refine Zhg (Zav rfl) ?_|refine Zhg (Zar rfl) ?_
    refine Zh8 rfl (by kernel_rfl) (ask_x hops) rfl qT ?_
    rintro _ _ ⟨rfl, rfl⟩
    refine Zg2 qA ?_
    first|refine Zhg (Zmm rfl) ?_|refine Zhg (Zar rfl) ?_
    refine Zhg (Zco rfl rfl) ?_
    refine Zhg (Zco rfl rfl) ?_
    first|refine Zhg (Zaz rfl) ?_|refine Zhg (Zas rfl) ?_
    first|refine Zhg (Zaz rfl) ?_|refine Zhg (Zas rfl) ?_
    refine Zg3 ?_
    refine Ct.o ?_
    refine Zgb ?_
    first|refine Zhg (Zav rfl) ?_|refine Zhg (Zar rfl) ?_
    refine Zh8 rfl (by kernel_rfl) (ra_ask hops) rfl qT ?_
    rintro _ _ ⟨rfl, rfl⟩
    refine Zg2 qA ?_
    first|refine Zhg (Zmm rfl) ?_|refine Zhg (Zar rfl) ?_
    refine Zhg (Zco rfl rfl) ?_
    refine Zhg (Zco rfl rfl) ?_
    first|refine Zhg (Zaz rfl) ?_|refine Zhg (Zas rfl) ?_
    first|refine Zhg (Zaz rfl) ?_|refine Zhg (Zas rfl) ?_
    refine Zg3 ?_
    refine Ct.o ?_
    refine Zgb ?_
    first|refine Zhg (Zat rfl) ?_|refine Zhg (Zar rfl) ?_
    first|refine Zhg (Zat rfl) ?_|refine Zhg (Zar rfl) ?_
    refine Zhg (Zln rfl rfl) ?_
    refine Zhm 117 rfl (decide_eq_true (rfl)) ?_
    first|refine Zhg (Zau rfl) ?_|refine Zhg (Zar rfl) ?_
    first|refine Zhi rfl ?_|refine Zhj rfl ?_|(refine Zhh rfl ?_; (first|refine Zhg (Zat rfl) ?_|refine Zhg (Zar rfl) ?_))
    first|refine Zhi rfl ?_|refine Zhj rfl ?_|(refine Zhh rfl ?_; (first|refine Zhg (Zat rfl) ?_|refine Zhg (Zar rfl) ?_))
    first|refine Zhi rfl ?_|refine Zhj rfl ?_|(refine Zhh rfl ?_; (first|refine Zhg (Zmj rfl rfl) ?_|refine Zhg (Zbr rfl rfl) ?_))
    refine Zhm 121 rfl (decide_eq_true (rfl)) ?_
    first|refine Zhg (Zdz rfl rfl) ?_|refine Zhg (Zd0 rfl rfl) ?_|refine Zhg (Za8 rfl rfl) ?_|refine Zhg (Za9 rfl rfl) ?_|refine Zhg (Za6 rfl rfl) ?_|refine Zhg (Za7 rfl rfl) ?_
    first|refine Zhg (Za0 rfl) ?_|refine Zhg (Zas rfl) ?_
    refine Zg3 ?_
    refine Ct.o ?_
    refine rx1 (Zha rfl (Zg7)) ?_
    exact ⟨_, ⟨rfl, rfl⟩, qI⟩
  by_cases h4 : t.do_ = 4
  · have e : HostS.toldR s t = (([], 0#64, (HostS.raiseR s t.v).1), (HostS.raiseR s t.v).2) := by unfold HostS.toldR; rw [if_neg h1, if_neg h2, if_neg h3, if_pos h4]
    rw [e]
    refine fn_x Try.func25 rfl rfl rfl Try.mixed (by kernel_rfl) ?_
    intro w0
    refine Ct.o ?_
    refine Zgb ?_
    refine Zh5 rfl ?_; intro b5
    first|refine Zhg (Za0 rfl) ?_|refine Zhg (Zas rfl) ?_
    refine Zg3 ?_
    refine Ct.o ?_
    refine Zgb ?_
    first|refine Zhg (Zl8 rfl) ?_|refine Zhg (Zce rfl) ?_
    refine Zhp rfl qH rfl ?_
    refine Zg3 ?_
    refine Ct.o ?_
    refine Zgb ?_
    first|refine Zhg (Zmj (b := 1) rfl rfl) ?_|refine Zhg (Zbr rfl rfl) ?_
    refine Zhn 26 rfl (decide_eq_false (h1)) ?_
    first|refine Zhg (Za0 rfl) ?_|refine Zhg (Zas rfl) ?_
    refine Zg3 ?_
    refine Ct.o ?_
    refine Zgf rfl ?_
    refine Ct.o ?_
    refine Zgb ?_
    first|refine Zhg (Zmj (b := 2) rfl rfl) ?_|refine Zhg (Zbr rfl rfl) ?_
    refine Zhn 65 rfl (decide_eq_false (h2)) ?_
    first|refine Zhg (Za0 rfl) ?_|refine Zhg (Zas rfl) ?_
    refine Zg3 ?_
    refine Ct.o ?_
    refine Zgf rfl ?_
    refine Ct.o ?_
    refine Zgb ?_
    first|refine Zhg (Zmj (b := 3) rfl rfl) ?_|refine Zhg (Zbr rfl rfl) ?_
    refine Zhn 104 rfl (decide_eq_false (h3)) ?_
    first|refine Zhg (Za0 rfl) ?_|refine Zhg (Zas rfl) ?_
    refine Zg3 ?_
    refine Ct.o ?_
    refine Zgf rfl ?_
    refine Ct.o ?_
    refine Zgb ?_
    first|refine Zhg (Zmj (b := 4) rfl rfl) ?_|refine Zhg (Zbr rfl rfl) ?_
    refine Zhm 124 rfl (decide_eq_true (h4)) ?_
    first|refine Zhg (Za0 rfl) ?_|refine Zhg (Zas rfl) ?_
    refine Zg3 ?_
    refine Ct.o ?_
    refine Zge rfl ?_
    refine Ct.o ?_
    refine Zij ([cl b5 (stc t (.slice da t.data.length dc)) 39]) [3, 6] (.q 0 (.q 1 (.q 4 (.q 5 (.r 2 (.r 6 (.e 3 true (.e 7 false (.q 8 (.q 9 .nil)))))))))) (by kernel_rfl) (by kernel_rfl) (Imp.arr qV) ?_
    first|refine Zim rfl (Zav rfl) ?_|refine Zim rfl (Zar rfl) ?_
    first|refine Zim rfl (Zl8 rfl) ?_|refine Zim rfl (Zce rfl) ?_
    first|refine Zim rfl (Zav rfl) ?_|refine Zim rfl (Zar rfl) ?_
    first|refine Zim rfl (Zl8 rfl) ?_|refine Zim rfl (Zce rfl) ?_
    refine Ziv rfl rfl qH rfl ?_
    refine Ziv rfl rfl qH rfl ?_
    refine Ziq rfl ?_
    refine Zh8 rfl (by kernel_rfl) (raise_x t.v hops) rfl qT ?_
    rintro _ _ ⟨rfl, rfl⟩
    refine Zg2 qA ?_
    refine Zg3 ⟨fun _ => Imp.arr qV, ?_⟩
    refine Ziq rfl ?_
    refine Zh8 rfl (by kernel_rfl) (ra_raise t.v hops) rfl qT ?_
    rintro _ _ ⟨rfl, rfl⟩
    refine Zg2 qA ?_
    refine Zg3 ⟨(fun hh => Bool.noConfusion hh), ?_⟩
    first|refine Zim rfl (Zmj rfl rfl) ?_|refine Zim rfl (Zbr rfl rfl) ?_
    refine Zi5 133 rfl (decide_eq_true (rfl)) ?_
    first|refine Zim rfl (Za0 rfl) ?_|refine Zim rfl (Zas rfl) ?_
    refine Zik ?_
    refine Ct.o ?_
    refine rx1 (Zha rfl (Zg7)) ?_
    exact ⟨_, ⟨rfl, rfl⟩, qI⟩
  by_cases h5 : t.do_ = 5
  · have e : HostS.toldR s t = (([], 0#64, 0), { s with down := false }) := by unfold HostS.toldR; rw [if_neg h1, if_neg h2, if_neg h3, if_neg h4, if_pos h5]
    rw [e]
    refine fn_x Try.func25 rfl rfl rfl Try.mixed (by kernel_rfl) ?_
    intro w0
    refine Ct.o ?_
    refine Zgb ?_
    refine Zh5 rfl ?_; intro b5
    first|refine Zhg (Za0 rfl) ?_|refine Zhg (Zas rfl) ?_
    refine Zg3 ?_
    refine Ct.o ?_
    refine Zgb ?_
    first|refine Zhg (Zl8 rfl) ?_|refine Zhg (Zce rfl) ?_
    refine Zhp rfl qH rfl ?_
    refine Zg3 ?_
    refine Ct.o ?_
    refine Zgb ?_
    first|refine Zhg (Zmj (b := 1) rfl rfl) ?_|refine Zhg (Zbr rfl rfl) ?_
    refine Zhn 26 rfl (decide_eq_false (h1)) ?_
    first|refine Zhg (Za0 rfl) ?_|refine Zhg (Zas rfl) ?_
    refine Zg3 ?_
    refine Ct.o ?_
    refine Zgf rfl ?_
    refine Ct.o ?_
    refine Zgb ?_
    first|refine Zhg (Zmj (b := 2) rfl rfl) ?_|refine Zhg (Zbr rfl rfl) ?_
    refine Zhn 65 rfl (decide_eq_false (h2)) ?_
    first|refine Zhg (Za0 rfl) ?_|refine Zhg (Zas rfl) ?_
    refine Zg3 ?_
    refine Ct.o ?_
    refine Zgf rfl ?_
    refine Ct.o ?_
    refine Zgb ?_
    first|refine Zhg (Zmj (b := 3) rfl rfl) ?_|refine Zhg (Zbr rfl rfl) ?_
    refine Zhn 104 rfl (decide_eq_false (h3)) ?_
    first|refine Zhg (Za0 rfl) ?_|refine Zhg (Zas rfl) ?_
    refine Zg3 ?_
    refine Ct.o ?_
    refine Zgf rfl ?_
    refine Ct.o ?_
    refine Zgb ?_
    first|refine Zhg (Zmj (b := 4) rfl rfl) ?_|refine Zhg (Zbr rfl rfl) ?_
    refine Zhn 124 rfl (decide_eq_false (h4)) ?_
    first|refine Zhg (Za0 rfl) ?_|refine Zhg (Zas rfl) ?_
    refine Zg3 ?_
    refine Ct.o ?_
    refine Zgf rfl ?_
    refine Ct.o ?_
    refine Zgb ?_
    first|refine Zhg (Zmj (b := 5) rfl rfl) ?_|refine Zhg (Zbr rfl rfl) ?_
    refine Zhm 135 rfl (decide_eq_true (h5)) ?_
    first|refine Zhg (Za0 rfl) ?_|refine Zhg (Zas rfl) ?_
    refine Zg3 ?_
    refine Ct.o ?_
    refine Zge rfl ?_
    refine Ct.o ?_
    refine Zgb ?_
    first|refine Zhg (Zav rfl) ?_|refine Zhg (Zar rfl) ?_
    refine Zh8 rfl (by kernel_rfl) (restart_x) rfl qT ?_
    rintro _ _ rfl
    refine Zg2 qA ?_
    refine Zg3 ?_
    refine Ct.o ?_
    refine Zgb ?_
    first|refine Zhg (Zav rfl) ?_|refine Zhg (Zar rfl) ?_
    refine Zh8 rfl (by kernel_rfl) (ra_restart) rfl qT ?_
    rintro _ _ rfl
    refine Zg2 qA ?_
    refine Zg3 ?_
    refine Ct.o ?_
    refine Zgb ?_
    first|refine Zhg (Za0 rfl) ?_|refine Zhg (Zas rfl) ?_
    refine Zg3 ?_
    refine Ct.o ?_
    refine rx1 (Zha rfl (Zg7)) ?_
    exact ⟨_, ⟨rfl, rfl⟩, qI⟩
  by_cases h6 : t.do_ = 6
  · have e : HostS.toldR s t = (([], 0#64, 0), s) := by unfold HostS.toldR; rw [if_neg h1, if_neg h2, if_neg h3, if_neg h4, if_neg h5, if_neg (by omega)]
    rw [e]
    refine fn_x Try.func25 rfl rfl rfl Try.mixed (by kernel_rfl) ?_
    intro w0
    refine Ct.o ?_
    refine Zgb ?_
    refine Zh5 rfl ?_; intro b5
    first|refine Zhg (Za0 rfl) ?_|refine Zhg (Zas rfl) ?_
    refine Zg3 ?_
    refine Ct.o ?_
    refine Zgb ?_
    first|refine Zhg (Zl8 rfl) ?_|refine Zhg (Zce rfl) ?_
    refine Zhp rfl qH rfl ?_
    refine Zg3 ?_
    refine Ct.o ?_
    refine Zgb ?_
    first|refine Zhg (Zmj (b := 1) rfl rfl) ?_|refine Zhg (Zbr rfl rfl) ?_
    refine Zhn 26 rfl (decide_eq_false (h1)) ?_
    first|refine Zhg (Za0 rfl) ?_|refine Zhg (Zas rfl) ?_
    refine Zg3 ?_
    refine Ct.o ?_
    refine Zgf rfl ?_
    refine Ct.o ?_
    refine Zgb ?_
    first|refine Zhg (Zmj (b := 2) rfl rfl) ?_|refine Zhg (Zbr rfl rfl) ?_
    refine Zhn 65 rfl (decide_eq_false (h2)) ?_
    first|refine Zhg (Za0 rfl) ?_|refine Zhg (Zas rfl) ?_
    refine Zg3 ?_
    refine Ct.o ?_
    refine Zgf rfl ?_
    refine Ct.o ?_
    refine Zgb ?_
    first|refine Zhg (Zmj (b := 3) rfl rfl) ?_|refine Zhg (Zbr rfl rfl) ?_
    refine Zhn 104 rfl (decide_eq_false (h3)) ?_
    first|refine Zhg (Za0 rfl) ?_|refine Zhg (Zas rfl) ?_
    refine Zg3 ?_
    refine Ct.o ?_
    refine Zgf rfl ?_
    refine Ct.o ?_
    refine Zgb ?_
    first|refine Zhg (Zmj (b := 4) rfl rfl) ?_|refine Zhg (Zbr rfl rfl) ?_
    refine Zhn 124 rfl (decide_eq_false (h4)) ?_
    first|refine Zhg (Za0 rfl) ?_|refine Zhg (Zas rfl) ?_
    refine Zg3 ?_
    refine Ct.o ?_
    refine Zgf rfl ?_
    refine Ct.o ?_
    refine Zgb ?_
    first|refine Zhg (Zmj (b := 5) rfl rfl) ?_|refine Zhg (Zbr rfl rfl) ?_
    refine Zhn 135 rfl (decide_eq_false (h5)) ?_
    first|refine Zhg (Za0 rfl) ?_|refine Zhg (Zas rfl) ?_
    refine Zg3 ?_
    refine Ct.o ?_
    refine Zgf rfl ?_
    refine Ct.o ?_
    refine Zgb ?_
    first|refine Zhg (Zmj (b := 6) rfl rfl) ?_|refine Zhg (Zbr rfl rfl) ?_
    refine Zhm 141 rfl (decide_eq_true (h6)) ?_
    first|refine Zhg (Za0 rfl) ?_|refine Zhg (Zas rfl) ?_
    refine Zg3 ?_
    refine Ct.o ?_
    refine Zge rfl ?_
    refine Ct.o ?_
    refine Zgp (Imp.arr (N := refA q s fl :: cl b5 (stc t (.slice da t.data.length dc)) 39 :: hostA ph s :: L) qV) ?_
    refine x_refA ?_
    intro wl fa fc wa wc la lc hk
    unfold refL
    simp only [List.cons_append, List.nil_append]
    refine Ct.o ?_
    refine Zij ([cl q (rcl s.pages s.size fa fl.length fc wa wl.length wc s.reg s.ops la s.log.length lc s.down) 93]) [1, 9, 18, 27] (.q 0 (.q 2 (.q 3 (.q 4 (.r 5 (.e 1 true (.q 6 (.q 7 (.q 8 (.q 10 (.q 11 (.q 12 (.r 13 (.e 9 true (.q 14 (.q 15 (.q 16 (.q 17 (.q 19 (.q 20 (.q 21 (.r 22 (.e 18 true (.q 23 (.q 24 (.q 25 (.q 26 (.q 28 (.q 29 (.q 30 (.r 31 (.e 27 true (.q 32 (.q 33 (.q 34 .nil))))))))))))))))))))))))))))))))))) (by kernel_rfl) (by kernel_rfl) (Imp.arr qV) ?_
    first|refine Zim rfl (Zav rfl) ?_|refine Zim rfl (Zar rfl) ?_
    first|refine Zim rfl (Zav rfl) ?_|refine Zim rfl (Zar rfl) ?_
    refine Zim rfl (Zba rfl) ?_
    first|refine Zim rfl (Zl8 rfl) ?_|refine Zim rfl (Zce rfl) ?_
    refine Ziv rfl rfl qH rfl ?_
    refine Ziq rfl ?_
    refine Zh8 rfl (by kernel_rfl) (down_x (p := ph) (s := s)) rfl qT ?_
    rintro _ _ ⟨rfl, rfl⟩
    refine Zg2 qA ?_
    refine Zg3 ⟨fun _ => Imp.arr qV, ?_⟩
    refine Zim rfl (Zb7 rfl rfl) ?_
    refine Zi5 148 rfl (beq_self_eq_true _) ?_
    first|refine Zim rfl (Zau rfl) ?_|refine Zim rfl (Zar rfl) ?_
    first|refine Zio rfl rfl ?_|refine Zip rfl rfl ?_|refine Zin rfl rfl (Zav rfl) ?_|refine Zin rfl rfl (Zar rfl) ?_
    first|refine Zio rfl rfl ?_|refine Zip rfl rfl ?_|refine Zin rfl rfl (Zav rfl) ?_|refine Zin rfl rfl (Zar rfl) ?_
    first|refine Zio rfl rfl ?_|refine Zip rfl rfl ?_|refine Zin rfl rfl (Zba rfl) ?_
    first|refine Zio rfl rfl ?_|refine Zip rfl rfl ?_|refine Zin rfl rfl (Zl8 rfl) ?_|refine Zin rfl rfl (Zce rfl) ?_
    first|refine Zi1 rfl rfl ?_|refine Zi2 rfl rfl ?_|refine Ziw rfl rfl rfl qH rfl ?_
    refine Ziq rfl ?_
    first|refine Zhi rfl ?_|refine Zhj rfl ?_|(refine Zhh rfl ?_; (refine Zh8 rfl (by kernel_rfl) (pages_x (p := ph) (s := s)) rfl qT ?_); (rintro _ _ ⟨rfl, rfl⟩); (refine Zg2 qA ?_))
    refine Zg3 ⟨fun _ => Imp.arr qV, ?_⟩
    first|refine Zio rfl rfl ?_|refine Zip rfl rfl ?_|refine Zin rfl rfl (Zmj rfl rfl) ?_|refine Zin rfl rfl (Zbr rfl rfl) ?_
    refine Zi5 156 rfl (decide_eq_true (rfl)) ?_
    first|refine Zim rfl (Zdz rfl rfl) ?_|refine Zim rfl (Zd0 rfl rfl) ?_|refine Zim rfl (Za8 rfl rfl) ?_|refine Zim rfl (Za9 rfl rfl) ?_|refine Zim rfl (Za6 rfl rfl) ?_|refine Zim rfl (Za7 rfl rfl) ?_
    first|refine Zim rfl (Zau rfl) ?_|refine Zim rfl (Zar rfl) ?_
    first|refine Zio rfl rfl ?_|refine Zip rfl rfl ?_|refine Zin rfl rfl (Zav rfl) ?_|refine Zin rfl rfl (Zar rfl) ?_
    first|refine Zio rfl rfl ?_|refine Zip rfl rfl ?_|refine Zin rfl rfl (Zav rfl) ?_|refine Zin rfl rfl (Zar rfl) ?_
    first|refine Zio rfl rfl ?_|refine Zip rfl rfl ?_|refine Zin rfl rfl (Zba rfl) ?_
    first|refine Zio rfl rfl ?_|refine Zip rfl rfl ?_|refine Zin rfl rfl (Zl8 rfl) ?_|refine Zin rfl rfl (Zce rfl) ?_
    first|refine Zi1 rfl rfl ?_|refine Zi2 rfl rfl ?_|refine Ziw rfl rfl rfl qH rfl ?_
    refine Ziq rfl ?_
    first|refine Zhi rfl ?_|refine Zhj rfl ?_|(refine Zhh rfl ?_; (refine Zh8 rfl (by kernel_rfl) (size_x (p := ph) (s := s)) rfl qT ?_); (rintro _ _ ⟨rfl, rfl⟩); (refine Zg2 qA ?_))
    refine Zg3 ⟨fun _ => Imp.arr qV, ?_⟩
    first|refine Zio rfl rfl ?_|refine Zip rfl rfl ?_|refine Zin rfl rfl (Zmj rfl rfl) ?_|refine Zin rfl rfl (Zbr rfl rfl) ?_
    refine Zi5 165 rfl (decide_eq_true (rfl)) ?_
    first|refine Zim rfl (Zdz rfl rfl) ?_|refine Zim rfl (Zd0 rfl rfl) ?_|refine Zim rfl (Za8 rfl rfl) ?_|refine Zim rfl (Za9 rfl rfl) ?_|refine Zim rfl (Za6 rfl rfl) ?_|refine Zim rfl (Za7 rfl rfl) ?_
    first|refine Zim rfl (Zau rfl) ?_|refine Zim rfl (Zar rfl) ?_
    first|refine Zio rfl rfl ?_|refine Zip rfl rfl ?_|refine Zin rfl rfl (Zav rfl) ?_|refine Zin rfl rfl (Zar rfl) ?_
    first|refine Zio rfl rfl ?_|refine Zip rfl rfl ?_|refine Zin rfl rfl (Zav rfl) ?_|refine Zin rfl rfl (Zar rfl) ?_
    first|refine Zio rfl rfl ?_|refine Zip rfl rfl ?_|refine Zin rfl rfl (Zba rfl) ?_
    first|refine Zio rfl rfl ?_|refine Zip rfl rfl ?_|refine Zin rfl rfl (Zl8 rfl) ?_|refine Zin rfl rfl (Zce rfl) ?_
    first|refine Zi1 rfl rfl ?_|refine Zi2 rfl rfl ?_|refine Ziw rfl rfl rfl qH rfl ?_
    refine Ziq rfl ?_
    first|refine Zhi rfl ?_|refine Zhj rfl ?_|(refine Zhh rfl ?_; (refine Zh8 rfl (by kernel_rfl) (ops_x (p := ph) (s := s)) rfl qT ?_); (rintro _ _ ⟨rfl, rfl⟩); (refine Zg2 qA ?_))
    refine Zg3 ⟨fun _ => Imp.arr qV, ?_⟩
    first|refine Zio rfl rfl ?_|refine Zip rfl rfl ?_|refine Zin rfl rfl (Zmj rfl rfl) ?_|refine Zin rfl rfl (Zbr rfl rfl) ?_
    refine Zi5 174 rfl (decide_eq_true (rfl)) ?_
    first|refine Zim rfl (Zdz rfl rfl) ?_|refine Zim rfl (Zd0 rfl rfl) ?_|refine Zim rfl (Za8 rfl rfl) ?_|refine Zim rfl (Za9 rfl rfl) ?_|refine Zim rfl (Za6 rfl rfl) ?_|refine Zim rfl (Za7 rfl rfl) ?_
    first|refine Zim rfl (Za0 rfl) ?_|refine Zim rfl (Zas rfl) ?_
    refine Zik ?_
    refine Ct.o ?_
    refine rx1 (Zha rfl (Zg7)) ?_
    exact ⟨_, ⟨rfl, rfl⟩, ((Imp.arr (N := refL q s fl wl fa fc wa wc la lc ++ hostA ph s :: L) (by unfold refL; repeat (first|exact Arr.nil|exact Arr.stop|refine Arr.cons (by repeat constructor) ?_|refine Arr.skip ?_))).trans (refA_mk hk)).trans Imp.swap⟩
  by_cases h7 : t.do_ = 7
  · have e : HostS.toldR s t = (((HostS.liesR s t.page), 0#64, 0), s) := by unfold HostS.toldR; rw [if_neg h1, if_neg h2, if_neg h3, if_neg h4, if_neg h5, if_pos h7]
    rw [e]
    refine fn_x Try.func25 rfl rfl rfl Try.mixed (by kernel_rfl) ?_
    intro w0
    refine Ct.o ?_
    refine Zgb ?_
    refine Zh5 rfl ?_; intro b5
    first|refine Zhg (Za0 rfl) ?_|refine Zhg (Zas rfl) ?_
    refine Zg3 ?_
    refine Ct.o ?_
    refine Zgb ?_
    first|refine Zhg (Zl8 rfl) ?_|refine Zhg (Zce rfl) ?_
    refine Zhp rfl qH rfl ?_
    refine Zg3 ?_
    refine Ct.o ?_
    refine Zgb ?_
    first|refine Zhg (Zmj (b := 1) rfl rfl) ?_|refine Zhg (Zbr rfl rfl) ?_
    refine Zhn 26 rfl (decide_eq_false (h1)) ?_
    first|refine Zhg (Za0 rfl) ?_|refine Zhg (Zas rfl) ?_
    refine Zg3 ?_
    refine Ct.o ?_
    refine Zgf rfl ?_
    refine Ct.o ?_
    refine Zgb ?_
    first|refine Zhg (Zmj (b := 2) rfl rfl) ?_|refine Zhg (Zbr rfl rfl) ?_
    refine Zhn 65 rfl (decide_eq_false (h2)) ?_
    first|refine Zhg (Za0 rfl) ?_|refine Zhg (Zas rfl) ?_
    refine Zg3 ?_
    refine Ct.o ?_
    refine Zgf rfl ?_
    refine Ct.o ?_
    refine Zgb ?_
    first|refine Zhg (Zmj (b := 3) rfl rfl) ?_|refine Zhg (Zbr rfl rfl) ?_
    refine Zhn 104 rfl (decide_eq_false (h3)) ?_
    first|refine Zhg (Za0 rfl) ?_|refine Zhg (Zas rfl) ?_
    refine Zg3 ?_
    refine Ct.o ?_
    refine Zgf rfl ?_
    refine Ct.o ?_
    refine Zgb ?_
    first|refine Zhg (Zmj (b := 4) rfl rfl) ?_|refine Zhg (Zbr rfl rfl) ?_
    refine Zhn 124 rfl (decide_eq_false (h4)) ?_
    first|refine Zhg (Za0 rfl) ?_|refine Zhg (Zas rfl) ?_
    refine Zg3 ?_
    refine Ct.o ?_
    refine Zgf rfl ?_
    refine Ct.o ?_
    refine Zgb ?_
    first|refine Zhg (Zmj (b := 5) rfl rfl) ?_|refine Zhg (Zbr rfl rfl) ?_
    refine Zhn 135 rfl (decide_eq_false (h5)) ?_
    first|refine Zhg (Za0 rfl) ?_|refine Zhg (Zas rfl) ?_
    refine Zg3 ?_
    refine Ct.o ?_
    refine Zgf rfl ?_
    refine Ct.o ?_
    refine Zgb ?_
    first|refine Zhg (Zmj (b := 6) rfl rfl) ?_|refine Zhg (Zbr rfl rfl) ?_
    refine Zhn 141 rfl (decide_eq_false (h6)) ?_
    first|refine Zhg (Za0 rfl) ?_|refine Zhg (Zas rfl) ?_
    refine Zg3 ?_
    refine Ct.o ?_
    refine Zgf rfl ?_
    refine Ct.o ?_
    refine Zgb ?_
    first|refine Zhg (Zmj (b := 7) rfl rfl) ?_|refine Zhg (Zbr rfl rfl) ?_
    refine Zhm 177 rfl (decide_eq_true (h7)) ?_
    first|refine Zhg (Za0 rfl) ?_|refine Zhg (Zas rfl) ?_
    refine Zg3 ?_
    refine Ct.o ?_
    refine Zge rfl ?_
    refine Ct.o ?_
    refine Zgb ?_
    first|refine Zhg (Zav rfl) ?_|refine Zhg (Zar rfl) ?_
    first|refine Zhg (Zl8 rfl) ?_|refine Zhg (Zce rfl) ?_
    refine Zhp rfl qH rfl ?_
    refine Zh8 rfl (by kernel_rfl) (lies_x (s := s) t.page (Nat.le_of_lt hops)) rfl qT ?_
    rintro _ _ ⟨a1, k1, rfl, rfl⟩
    refine Zg2 qA ?_
    first|refine Zhg (Za2 rfl) ?_|refine Zhg (Zas rfl) ?_
    refine Zg3 ?_
    refine Ct.o ?_
    refine Zgb ?_
    first|refine Zhg (Zaw rfl) ?_|refine Zhg (Zar rfl) ?_
    first|refine Zhg (Zav rfl) ?_|refine Zhg (Zar rfl) ?_
    first|refine Zhg (Zl8 rfl) ?_|refine Zhg (Zce rfl) ?_
    refine Zhp rfl qH rfl ?_
    refine Zh8 rfl (by kernel_rfl) (ra_lies (s := s) t.page (Nat.le_of_lt hops)) rfl qT ?_
    rintro _ _ ⟨a2, k2, rfl, rfl⟩
    refine Zg2 qA ?_
    refine Zh8 rfl (by kernel_rfl) (eqBytes_x (L := [ownB a1 k1 (HostS.liesR s t.page), ownB a2 k2 (HostS.liesR s t.page)]) (Bs.own .here) (Bs.own (.there .here))) rfl qT ?_
    rintro _ _ ⟨rfl, rfl⟩
    refine Zg2 qA ?_
    refine Zhm 187 rfl (decide_eq_true (rfl)) ?_
    refine Zhg (Zb0 rfl) ?_
    refine Zhn 188 rfl (rfl) ?_
    refine Zg3 ?_
    refine Ct.o ?_
    refine Zgf rfl ?_
    refine Ct.o ?_
    refine Zgb ?_
    first|refine Zhg (Zaz rfl) ?_|refine Zhg (Zas rfl) ?_
    refine Zg3 ?_
    refine Ct.o ?_
    refine Zgt (fun F w H => own_cap (n := (HostS.liesR s t.page).length) (c := k1) qH H) ?_
    rintro ⟨hc1, hc2⟩
    refine Zgo [(20, 20), (189, 202)] (by kernel_rfl) (fun z : Nat × List Byte => z.1 ≤ (HostS.liesR s t.page).length ∧ z.2.length = (HostS.liesR s t.page).length) (fun z => own 5 1 (.slice a1 (HostS.liesR s t.page).length k1) (HostS.liesR s t.page).length (z.2.map u8b) :: hostA ph s :: refA q s fl :: L) (fun z => [(20, nvv z.1)]) (fun z => (HostS.liesR s t.page).length - z.1) (0, (HostS.liesR s t.page)) ⟨Nat.zero_le _, rfl⟩ qI ⟨rfl, trivial⟩ ?_
    rintro ⟨k, T⟩ u ⟨hk, hT⟩
    dsimp only at hk hT ⊢
    refine Ct.o ?_
    refine Zgb ?_
    first|refine Zhg (Zat rfl) ?_|refine Zhg (Zar rfl) ?_
    first|refine Zhg (Zaw rfl) ?_|refine Zhg (Zar rfl) ?_
    first|refine Zhg (Zcr rfl) ?_|refine Zhg (Zct) ?_|refine Zhg (Zcu rfl) ?_
    first|refine Zhg (Zmf rfl rfl) ?_|refine Zhg (Zbn rfl rfl) ?_
    refine Zg3 ?_
    refine Ct.o ?_
    refine Zgg rfl (fun hB => ?_) (fun hB => ?_)
    · refine Zgt (fun F w H => own_some (n := (HostS.liesR s t.page).length) (a := a1) qH (by omega) H) ?_
      rintro ⟨gc, hgc⟩
      try rw [hgc]
      have hg2 : (T.map u8b)[k]? = some (u8b (T[k]'(by omega))) := by rw [List.getElem?_map, List.getElem?_eq_getElem (by omega)]; rfl
      refine Ct.o ?_
      refine Zgb ?_
      first|refine Zhg (Zaw rfl) ?_|refine Zhg (Zar rfl) ?_
      first|refine Zhg (Zat rfl) ?_|refine Zhg (Zar rfl) ?_
      first|refine Zhg (Zaw rfl) ?_|refine Zhg (Zar rfl) ?_
      first|refine Zhg (Zat rfl) ?_|refine Zhg (Zar rfl) ?_
      first|refine Zhg (Zl4 rfl rfl) ?_|refine Zhg (Zl1 rfl rfl) ?_
      refine Zff rfl (((Rd.own (n := (HostS.liesR s t.page).length) qH).at0 hB hg2)) ?_
      refine Zhg (Zje (y := 255#8) rfl rfl) ?_
      first|refine Zhg (Zl4 rfl rfl) ?_|refine Zhg (Zl1 rfl rfl) ?_
      refine Zm7 (u := u8b (T[k]'(by omega) ^^^ 255#8)) (i := k) (xs := T.map u8b) (ys := (T.set k (T[k]'(by omega) ^^^ 255#8)).map u8b) rfl rfl rfl qR hB (by rw [List.map_set]) ?_
      refine Zg3 ?_
      refine Ct.o ?_
      refine Zgb ?_
      first|refine Zhg (Zat rfl) ?_|refine Zhg (Zar rfl) ?_
      first|refine Zhg (Zma (b := 1) rfl rfl) ?_|refine Zhg (Zbg rfl rfl) ?_
      first|refine Zhg (Zaz rfl) ?_|refine Zhg (Zas rfl) ?_
      refine Zg3 ?_
      refine Ct.o ?_
      exact Zgl (k + 1, T.set k (T[k]'(by omega) ^^^ 255#8)) qO ⟨by dsimp only; omega, by dsimp only; rw [List.length_set]; exact hT⟩ qI ⟨rfl, trivial⟩
    · refine Ct.o ?_
      refine Zgb ?_
      first|refine Zhg (Za0 rfl) ?_|refine Zhg (Zas rfl) ?_
      refine Zg3 ?_
      refine Ct.o ?_
      refine rx1 (Zha rfl (Zg7)) ?_
      exact ⟨_, ⟨rfl, rfl⟩, qI⟩
  by_cases h8 : t.do_ = 8
  · have e : HostS.toldR s t = (([], 0#64, 0), s) := by unfold HostS.toldR; rw [if_neg h1, if_neg h2, if_neg h3, if_neg h4, if_neg h5, if_neg h7]
    rw [e]
    refine fn_x Try.func25 rfl rfl rfl Try.mixed (by kernel_rfl) ?_
    intro w0
    refine Ct.o ?_
    refine Zgb ?_
    refine Zh5 rfl ?_; intro b5
    first|refine Zhg (Za0 rfl) ?_|refine Zhg (Zas rfl) ?_
    refine Zg3 ?_
    refine Ct.o ?_
    refine Zgb ?_
    first|refine Zhg (Zl8 rfl) ?_|refine Zhg (Zce rfl) ?_
    refine Zhp rfl qH rfl ?_
    refine Zg3 ?_
    refine Ct.o ?_
    refine Zgb ?_
    first|refine Zhg (Zmj (b := 1) rfl rfl) ?_|refine Zhg (Zbr rfl rfl) ?_
    refine Zhn 26 rfl (decide_eq_false (h1)) ?_
    first|refine Zhg (Za0 rfl) ?_|refine Zhg (Zas rfl) ?_
    refine Zg3 ?_
    refine Ct.o ?_
    refine Zgf rfl ?_
    refine Ct.o ?_
    refine Zgb ?_
    first|refine Zhg (Zmj (b := 2) rfl rfl) ?_|refine Zhg (Zbr rfl rfl) ?_
    refine Zhn 65 rfl (decide_eq_false (h2)) ?_
    first|refine Zhg (Za0 rfl) ?_|refine Zhg (Zas rfl) ?_
    refine Zg3 ?_
    refine Ct.o ?_
    refine Zgf rfl ?_
    refine Ct.o ?_
    refine Zgb ?_
    first|refine Zhg (Zmj (b := 3) rfl rfl) ?_|refine Zhg (Zbr rfl rfl) ?_
    refine Zhn 104 rfl (decide_eq_false (h3)) ?_
    first|refine Zhg (Za0 rfl) ?_|refine Zhg (Zas rfl) ?_
    refine Zg3 ?_
    refine Ct.o ?_
    refine Zgf rfl ?_
    refine Ct.o ?_
    refine Zgb ?_
    first|refine Zhg (Zmj (b := 4) rfl rfl) ?_|refine Zhg (Zbr rfl rfl) ?_
    refine Zhn 124 rfl (decide_eq_false (h4)) ?_
    first|refine Zhg (Za0 rfl) ?_|refine Zhg (Zas rfl) ?_
    refine Zg3 ?_
    refine Ct.o ?_
    refine Zgf rfl ?_
    refine Ct.o ?_
    refine Zgb ?_
    first|refine Zhg (Zmj (b := 5) rfl rfl) ?_|refine Zhg (Zbr rfl rfl) ?_
    refine Zhn 135 rfl (decide_eq_false (h5)) ?_
    first|refine Zhg (Za0 rfl) ?_|refine Zhg (Zas rfl) ?_
    refine Zg3 ?_
    refine Ct.o ?_
    refine Zgf rfl ?_
    refine Ct.o ?_
    refine Zgb ?_
    first|refine Zhg (Zmj (b := 6) rfl rfl) ?_|refine Zhg (Zbr rfl rfl) ?_
    refine Zhn 141 rfl (decide_eq_false (h6)) ?_
    first|refine Zhg (Za0 rfl) ?_|refine Zhg (Zas rfl) ?_
    refine Zg3 ?_
    refine Ct.o ?_
    refine Zgf rfl ?_
    refine Ct.o ?_
    refine Zgb ?_
    first|refine Zhg (Zmj (b := 7) rfl rfl) ?_|refine Zhg (Zbr rfl rfl) ?_
    refine Zhn 177 rfl (decide_eq_false (h7)) ?_
    first|refine Zhg (Za0 rfl) ?_|refine Zhg (Zas rfl) ?_
    refine Zg3 ?_
    refine Ct.o ?_
    refine Zgf rfl ?_
    refine Ct.o ?_
    refine Zgb ?_
    first|refine Zhg (Zmj (b := 8) rfl rfl) ?_|refine Zhg (Zbr rfl rfl) ?_
    refine Zhm 204 rfl (decide_eq_true (h8)) ?_
    first|refine Zhg (Za0 rfl) ?_|refine Zhg (Zas rfl) ?_
    refine Zg3 ?_
    refine Ct.o ?_
    refine Zge rfl ?_
    refine Ct.o ?_
    refine Zgt (fun F w H => host_ok (p := ph) (s := s) qH H) ?_
    intro hok
    have hll := hok.log
    obtain ⟨ol, hol⟩ := sub_of hlog
    have hoc : s.log.flatMap tcells = ol.flatMap ocells := by rw [hol, List.flatMap_map]; unfold ocells; rfl
    have holl : s.log.length = ol.length := by rw [hol, List.length_map]
    refine Ct.o ?_
    refine Zgb ?_
    first|refine Zhg (Zav rfl) ?_|refine Zhg (Zar rfl) ?_
    refine Zh8 rfl (by kernel_rfl) (log_x (p := ph) (s := s) (by omega)) rfl qT ?_
    rintro _ _ ⟨l1, m1, rfl, rfl⟩
    refine Zg2 qA ?_
    first|refine Zhg (Za2 rfl) ?_|refine Zhg (Zas rfl) ?_
    refine Zg3 ?_
    refine Ct.o ?_
    refine Zgp (Imp.arr (N := refA q s fl :: ownLog l1 m1 s.log :: cl b5 (stc t (.slice da t.data.length dc)) 39 :: hostA ph s :: L) qV) ?_
    refine x_refA ?_
    intro wl fa fc wa wc la lc hk
    unfold refL
    simp only [List.cons_append, List.nil_append]
    refine Ct.o ?_
    refine Zgb ?_
    first|refine Zhg (Zaw rfl) ?_|refine Zhg (Zar rfl) ?_
    first|refine Zhg (Zav rfl) ?_|refine Zhg (Zar rfl) ?_
    refine Zhg (Zba rfl) ?_
    first|refine Zhg (Zl8 rfl) ?_|refine Zhg (Zce rfl) ?_
    refine Zhp rfl qH rfl ?_
    refine Zh8 rfl (by kernel_rfl) (sameLog_x (L := [ownLog l1 m1 s.log, own 56 15 (.slice la s.log.length lc) s.log.length (s.log.flatMap tcells)]) (a := ol) (b := ol) (by rw [← holl, ← hoc]; exact Rd.own .here) (by rw [← holl, ← hoc]; exact Rd.own (.there .here)) (by omega) (by omega)) rfl qT ?_
    rintro _ _ ⟨rfl, rfl⟩
    refine Zg2 qA ?_
    refine Zhm 212 rfl (decide_eq_true (rfl)) ?_
    refine Zhg (Zb0 rfl) ?_
    refine Zhn 213 rfl (rfl) ?_
    refine Zg3 ?_
    refine Ct.o ?_
    refine Zgf rfl ?_
    refine Ct.o ?_
    refine Zgp ((Imp.arr (N := refL q s fl wl fa fc wa wc la lc ++ ownLog l1 m1 s.log :: hostA ph s :: L) (by unfold refL; repeat (first|exact Arr.nil|exact Arr.stop|refine Arr.cons (by repeat constructor) ?_|refine Arr.skip ?_))).trans (refA_mk hk)) ?_
    refine Ct.o ?_
    refine Zgb ?_
    first|refine Zhg (Zaz rfl) ?_|refine Zhg (Zas rfl) ?_
    refine Zg3 ?_
    refine Ct.o ?_
    have hxl0 : (s.log.flatMap tcells).length = s.log.length * 15 := by rw [hoc, List.length_flatMap]; simp [ocells_len, List.map_const', holl]
    refine Zgo [(22, 22), (214, 223)] (by kernel_rfl) (fun z : Nat × List Value => z.1 ≤ s.log.length ∧ z.2.length = s.log.length * 15) (fun z => own 56 15 (.slice l1 s.log.length m1) s.log.length z.2 :: hostA ph s :: refA q s fl :: L) (fun z => [(22, nvv z.1)]) (fun z => s.log.length - z.1) (0, s.log.flatMap tcells) ⟨Nat.zero_le _, hxl0⟩ qI ⟨rfl, trivial⟩ ?_
    rintro ⟨i, xs⟩ u ⟨hi, hxl⟩
    dsimp only at hi hxl ⊢
    refine Ct.o ?_
    refine Zgb ?_
    first|refine Zhg (Zat rfl) ?_|refine Zhg (Zar rfl) ?_
    first|refine Zhg (Zaw rfl) ?_|refine Zhg (Zar rfl) ?_
    first|refine Zhg (Zcr rfl) ?_|refine Zhg (Zct) ?_|refine Zhg (Zcu rfl) ?_
    first|refine Zhg (Zmf rfl rfl) ?_|refine Zhg (Zbn rfl rfl) ?_
    refine Zg3 ?_
    refine Ct.o ?_
    refine Zgg rfl (fun hB => ?_) (fun hB => ?_)
    · refine Zgt (fun F w H => own_someN (n := s.log.length) (a := l1) qH (by omega) H) ?_
      rintro ⟨g, rfl⟩
      obtain ⟨ys, hys⟩ : ∃ ys, ys = (wr xs.toArray (i * 15) (tcells ⟨-1, 0, 0, List.replicate 12 0#8⟩)).toList := ⟨_, rfl⟩
      have hyl : ys.length = s.log.length * 15 := by rw [hys, Array.length_toList, wr_size, List.size_toArray, hxl]
      refine Ct.o ?_
      refine Zgb ?_
      first|refine Zhg (Zaw rfl) ?_|refine Zhg (Zar rfl) ?_
      first|refine Zhg (Zat rfl) ?_|refine Zhg (Zar rfl) ?_
      refine Zhg (Zdm (cs := (tcells ⟨-1, 0, 0, List.replicate 12 0#8⟩).toArray) (by kernel_rfl)) ?_
      first|refine Zhg (Zl6 rfl rfl) ?_|refine Zhg (Zcg rfl rfl) ?_
      refine Zn0 (m := 15) (xs := xs) (ys := ys) rfl rfl (by kernel_rfl) (tcells_one _) qR (by omega) hys.symm ?_
      refine Zg3 ?_
      refine Ct.o ?_
      refine Zgb ?_
      first|refine Zhg (Zat rfl) ?_|refine Zhg (Zar rfl) ?_
      first|refine Zhg (Zma (b := 1) rfl rfl) ?_|refine Zhg (Zbg rfl rfl) ?_
      first|refine Zhg (Zaz rfl) ?_|refine Zhg (Zas rfl) ?_
      refine Zg3 ?_
      refine Ct.o ?_
      exact Zgl (i + 1, ys) qO ⟨by dsimp only; omega, hyl⟩ qI ⟨rfl, trivial⟩
    · refine Ct.o ?_
      refine Zgb ?_
      first|refine Zhg (Za0 rfl) ?_|refine Zhg (Zas rfl) ?_
      refine Zg3 ?_
      refine Ct.o ?_
      refine rx1 (Zha rfl (Zg7)) ?_
      exact ⟨_, ⟨rfl, rfl⟩, qI⟩
  have e : HostS.toldR s t = (([], 0#64, 0), s) := by unfold HostS.toldR; rw [if_neg h1, if_neg h2, if_neg h3, if_neg h4, if_neg h5, if_neg h7]
  rw [e]
  refine fn_x Try.func25 rfl rfl rfl Try.mixed (by kernel_rfl) ?_
  intro w0
  refine Ct.o ?_
  refine Zgb ?_
  refine Zh5 rfl ?_; intro b5
  first|refine Zhg (Za0 rfl) ?_|refine Zhg (Zas rfl) ?_
  refine Zg3 ?_
  refine Ct.o ?_
  refine Zgb ?_
  first|refine Zhg (Zl8 rfl) ?_|refine Zhg (Zce rfl) ?_
  refine Zhp rfl qH rfl ?_
  refine Zg3 ?_
  refine Ct.o ?_
  refine Zgb ?_
  first|refine Zhg (Zmj (b := 1) rfl rfl) ?_|refine Zhg (Zbr rfl rfl) ?_
  refine Zhn 26 rfl (decide_eq_false (h1)) ?_
  first|refine Zhg (Za0 rfl) ?_|refine Zhg (Zas rfl) ?_
  refine Zg3 ?_
  refine Ct.o ?_
  refine Zgf rfl ?_
  refine Ct.o ?_
  refine Zgb ?_
  first|refine Zhg (Zmj (b := 2) rfl rfl) ?_|refine Zhg (Zbr rfl rfl) ?_
  refine Zhn 65 rfl (decide_eq_false (h2)) ?_
  first|refine Zhg (Za0 rfl) ?_|refine Zhg (Zas rfl) ?_
  refine Zg3 ?_
  refine Ct.o ?_
  refine Zgf rfl ?_
  refine Ct.o ?_
  refine Zgb ?_
  first|refine Zhg (Zmj (b := 3) rfl rfl) ?_|refine Zhg (Zbr rfl rfl) ?_
  refine Zhn 104 rfl (decide_eq_false (h3)) ?_
  first|refine Zhg (Za0 rfl) ?_|refine Zhg (Zas rfl) ?_
  refine Zg3 ?_
  refine Ct.o ?_
  refine Zgf rfl ?_
  refine Ct.o ?_
  refine Zgb ?_
  first|refine Zhg (Zmj (b := 4) rfl rfl) ?_|refine Zhg (Zbr rfl rfl) ?_
  refine Zhn 124 rfl (decide_eq_false (h4)) ?_
  first|refine Zhg (Za0 rfl) ?_|refine Zhg (Zas rfl) ?_
  refine Zg3 ?_
  refine Ct.o ?_
  refine Zgf rfl ?_
  refine Ct.o ?_
  refine Zgb ?_
  first|refine Zhg (Zmj (b := 5) rfl rfl) ?_|refine Zhg (Zbr rfl rfl) ?_
  refine Zhn 135 rfl (decide_eq_false (h5)) ?_
  first|refine Zhg (Za0 rfl) ?_|refine Zhg (Zas rfl) ?_
  refine Zg3 ?_
  refine Ct.o ?_
  refine Zgf rfl ?_
  refine Ct.o ?_
  refine Zgb ?_
  first|refine Zhg (Zmj (b := 6) rfl rfl) ?_|refine Zhg (Zbr rfl rfl) ?_
  refine Zhn 141 rfl (decide_eq_false (h6)) ?_
  first|refine Zhg (Za0 rfl) ?_|refine Zhg (Zas rfl) ?_
  refine Zg3 ?_
  refine Ct.o ?_
  refine Zgf rfl ?_
  refine Ct.o ?_
  refine Zgb ?_
  first|refine Zhg (Zmj (b := 7) rfl rfl) ?_|refine Zhg (Zbr rfl rfl) ?_
  refine Zhn 177 rfl (decide_eq_false (h7)) ?_
  first|refine Zhg (Za0 rfl) ?_|refine Zhg (Zas rfl) ?_
  refine Zg3 ?_
  refine Ct.o ?_
  refine Zgf rfl ?_
  refine Ct.o ?_
  refine Zgb ?_
  first|refine Zhg (Zmj (b := 8) rfl rfl) ?_|refine Zhg (Zbr rfl rfl) ?_
  refine Zhn 204 rfl (decide_eq_false (h8)) ?_
  first|refine Zhg (Za0 rfl) ?_|refine Zhg (Zas rfl) ?_
  refine Zg3 ?_
  refine Ct.o ?_
  refine Zgf rfl ?_
  refine Ct.o ?_
  refine Zgb ?_
  first|refine Zhg (Za0 rfl) ?_|refine Zhg (Zas rfl) ?_
  refine Zg3 ?_
  refine Ct.o ?_
  refine rx1 (Zha rfl (Zg7)) ?_
  exact ⟨_, ⟨rfl, rfl⟩, qI⟩
theorem step_x {L : List Asrt} {ph q : Nat} {s : HostS.HS} {fl : List HostS.Fault} (t : HostS.Step) {dv : Value} (hb : Bs L dv t.data) (hdl : t.data.length ≤ 140737488351232) (hops : s.ops < 3298534883328) (hlog : LogOk s) :
    Con Try.prog 25 [hp ph, hp q, .agg (stc t dv)] (twoA true ph q s fl :: L) (fun r M => r = .bool true ∧ M = twoA true ph q (HostS.toldR s t).2 fl :: L) :=
  Con.pre (((step_g t hb hdl hops hlog).mono fun r M ⟨h1, h2⟩ => by subst h2; exact ⟨_, Imp.app (L := [hostA ph (HostS.toldR s t).2, refA q (HostS.toldR s t).2 fl]), h1, rfl⟩)) (Imp.unapp (L := [hostA ph s, refA q s fl]))
end Go.Sl

/- trystlaw11: HostPlays, walked. -/
set_option maxHeartbeats 4000000
set_option maxRecDepth 10000
set_option linter.unusedVariables false
set_option linter.unusedSimpArgs false
namespace Go.Sl
open Go Go.Proofs
attribute [local irreducible] cl pt own old pur ex all den denOps denS xOps xC cX CX xthen xblk xcut xloop xgo xng retX resX Calls PV Rd Con
attribute [local irreducible] hostA HostS.toldR refA
theorem two_ok {ph q : Nat} {s : HostS.HS} {fl : List HostS.Fault} {M M' : List Asrt} {F : Asrt} {w0 w : World} (hm : Has M (twoA true ph q s fl) M') (H : St w0 w (F :: M)) : HostS.Ok s :=
  host_ok (M := hostA ph s :: refA q s fl :: M') .here (H.enx ((Imp.has hm).trans (Imp.unapp (L := [hostA ph s, refA q s fl]))))
def lastL (pg : Int) : List StepV := [⟨6, 0, 0#64, .slice none 0 0, []⟩, ⟨8, 0, 0#64, .slice none 0 0, []⟩, ⟨7, 0, 0#64, .slice none 0 0, []⟩, ⟨7, pg, 0#64, .slice none 0 0, []⟩]
theorem lastIn {M M' : List Asrt} {g : Nat} {pg : Int} (hm : Has M (cl g ((lastL pg).flatMap StepV.cells).toArray 39) M') : StepsIn M (.slice (some ⟨g, 0, none⟩) 4 4) (lastL pg) := by
  refine ⟨Rd.cl (o := 0) (k := 4) (n := 4) hm rfl (by show 0 + 4 * 4 ≤ 16; omega) rfl, ?_, by show 4 * 48 ≤ _; omega⟩
  intro x hx
  simp only [lastL, List.mem_cons, List.not_mem_nil, or_false] at hx
  rcases hx with rfl|rfl|rfl|rfl <;> exact ⟨Bs.nil, Nat.zero_le _⟩
theorem plays_g {L : List Asrt} {pages size pages2 size2 : Int} {fv sv fv2 sv2 : Value} {fl fl2 : List HostS.Fault} {st st2 : List StepV} (hf : FaultsIn L fv fl) (hs : StepsIn L sv st) (hf2 : FaultsIn L fv2 fl2) (hs2 : StepsIn L sv2 st2) (hbig : ∀ f ∈ fl, FBig f) (hbig2 : ∀ f ∈ fl2, FBig f) :
    Con Try.prog 6 [.agg (lfc pages size fv sv), .agg (lfc pages2 size2 fv2 sv2)] L (fun r M => r = .bool true ∧ L = M) := by
  refine Con.get (fun w0 w F H => hf.rd.len H) ?_
  rintro ⟨fa, fc, rfl⟩
  refine Con.get (fun w0 w F H => hs.rd.len H) ?_
  rintro ⟨sa, sc, rfl⟩
  refine Con.get (fun w0 w F H => hf2.rd.len H) ?_
  rintro ⟨fa2, fc2, rfl⟩
  refine Con.get (fun w0 w F H => hs2.rd.len H) ?_
  rintro ⟨sa2, sc2, rfl⟩
  have hsl := hs.len
  have hsl2 := hs2.len
  have ey : ∀ (p : Prop), ∃ b : Bool, b = true ↔ p := fun p => by
    by_cases h : p
    · exact ⟨true, fun _ => h, fun _ => rfl⟩
    · exact ⟨false, fun h => Bool.noConfusion h, fun hh => absurd hh h⟩
  obtain ⟨y1, hb1⟩ := ey (HostS.mayBe pages size fl)
  obtain ⟨y2, hb2⟩ := ey (HostS.mayBe pages2 size2 fl2)
  have hm1 := made_x (sv := .slice sa st.length sc) y1 hb1 hf hbig
  have hm2 := made_x (sv := .slice sa2 st2.length sc2) y2 hb2 hf2 hbig2
  clear hb1 hb2 ey
  refine fn_x Try.func6 rfl rfl rfl Try.mixed (by kernel_rfl) ?_
  intro w0
  refine Ct.o ?_
  refine Zgb ?_
  refine Zh5 rfl ?_; intro b2
  refine Zh5 rfl ?_; intro b3
  first|refine Zhg (Za0 rfl) ?_|refine Zhg (Zas rfl) ?_
  refine Zg3 ?_
  refine Ct.o ?_
  refine Zgb ?_
  first|refine Zhr rfl qH qZ ?_|refine Zhq rfl qH qZ rfl ?_
  refine Zh8 rfl (by kernel_rfl) (hm1) rfl qT ?_
  rintro _ _ ⟨ph, q, rfl, rfl⟩
  refine Zg2 qA ?_
  first|refine Zhg (Zmm rfl) ?_|refine Zhg (Zar rfl) ?_
  refine Zhg (Zco rfl rfl) ?_
  refine Zhg (Zco rfl rfl) ?_
  refine Zhg (Zco rfl rfl) ?_
  first|refine Zhg (Za1 rfl) ?_|refine Zhg (Zas rfl) ?_
  first|refine Zhg (Za1 rfl) ?_|refine Zhg (Zas rfl) ?_
  first|refine Zhg (Za0 rfl) ?_|refine Zhg (Zas rfl) ?_
  refine Zg3 ?_
  refine Ct.o ?_
  refine Zgb ?_
  first|refine Zhr rfl qH qZ ?_|refine Zhq rfl qH qZ rfl ?_
  refine Zh8 rfl (by kernel_rfl) (hm2) rfl qT ?_
  rintro _ _ ⟨pg, q2, rfl, rfl⟩
  refine Zg2 qA ?_
  first|refine Zhg (Zmm rfl) ?_|refine Zhg (Zar rfl) ?_
  refine Zhg (Zco rfl rfl) ?_
  refine Zhg (Zco rfl rfl) ?_
  refine Zhg (Zco rfl rfl) ?_
  first|refine Zhg (Za1 rfl) ?_|refine Zhg (Zas rfl) ?_
  first|refine Zhg (Za1 rfl) ?_|refine Zhg (Zas rfl) ?_
  first|refine Zhg (Za0 rfl) ?_|refine Zhg (Zas rfl) ?_
  refine Zg3 ?_
  refine Ct.o ?_
  refine Zgb ?_
  first|refine Zhg (Zau rfl) ?_|refine Zhg (Zar rfl) ?_
  refine Zhg (Zb0 rfl) ?_
  refine Zhn 27 rfl (rfl) ?_
  first|refine Zhg (Zau rfl) ?_|refine Zhg (Zar rfl) ?_
  first|refine Zhi rfl ?_|refine Zhj rfl ?_|(refine Zhh rfl ?_; (first|refine Zhg (Zau rfl) ?_|refine Zhg (Zar rfl) ?_))
  first|refine Zhi rfl ?_|refine Zhj rfl ?_|(refine Zhh rfl ?_; (refine Zhg (Zb0 rfl) ?_))
  refine Zhn 30 rfl (rfl) ?_
  first|refine Zhg (Zdz rfl rfl) ?_|refine Zhg (Zd0 rfl rfl) ?_|refine Zhg (Za8 rfl rfl) ?_|refine Zhg (Za9 rfl rfl) ?_|refine Zhg (Za6 rfl rfl) ?_|refine Zhg (Za7 rfl rfl) ?_
  refine Zg3 ?_
  refine Ct.o ?_
  refine Zgf rfl ?_
  refine Ct.o ?_
  refine Zgb ?_
  first|refine Zhg (Zaz rfl) ?_|refine Zhg (Zas rfl) ?_
  refine Zg3 ?_
  repeat (first|refine zA ?_|refine zB ?_|refine zD ?_|refine zE ?_|refine zF ?_|refine zG ?_|refine zH ?_|refine zI ?_|refine zJ ?_|refine zK ?_|refine zL ?_|refine zM rfl ?_|refine zN ?_|refine zO ?_|refine zP ?_|refine zQ ?_)
  refine Zgn [(4, 4), (11, 11), (32, 87)] (by kernel_rfl) (fun s : HostS.HS × HostS.HS => s.1.ops ≤ 2932031007402 ∧ LogOk s.1 ∧ s.2.ops ≤ 2932031007402 ∧ LogOk s.2) (fun s => twoA y1 ph q s.1 fl :: twoA y2 pg q2 s.2 fl2 :: cl b2 (lfc pages size (.slice fa fl.length fc) (.slice sa st.length sc)) 25 :: cl b3 (lfc pages2 size2 (.slice fa2 fl2.length fc2) (.slice sa2 st2.length sc2)) 25 :: L) (fun _ => []) ?_ ?_
  · refine Ct.o ?_
    refine Zgo [(4, 4), (11, 11), (32, 87)] (by kernel_rfl) (fun s : Nat × HostS.HS × HostS.HS => (s.1 ≤ st.length ∨ s.1 ≤ st2.length) ∧ s.2.1.ops ≤ s.1 ∧ LogOk s.2.1 ∧ s.2.2.ops ≤ s.1 ∧ LogOk s.2.2) (fun s => twoA y1 ph q s.2.1 fl :: twoA y2 pg q2 s.2.2 fl2 :: cl b2 (lfc pages size (.slice fa fl.length fc) (.slice sa st.length sc)) 25 :: cl b3 (lfc pages2 size2 (.slice fa2 fl2.length fc2) (.slice sa2 st2.length sc2)) 25 :: L) (fun s => [(11, nvv s.1)]) (fun s => st.length + st2.length - s.1) (0, HostS.fresh pages size.toNat fl, HostS.fresh pages2 size2.toNat fl2) ⟨.inl (Nat.zero_le _), Nat.le_refl _, (by intro t h; cases h), Nat.le_refl _, (by intro t h; cases h)⟩ qI ⟨rfl, trivial⟩ ?_
    rintro ⟨i, s, z⟩ u ⟨hi, ho1, hl1, ho2, hl2⟩
    dsimp only at hi ho1 hl1 ho2 hl2 ⊢
    by_cases hn1 : i < st.length
    · refine Ct.o ?_
      refine Zgb ?_
      first|refine Zhg (Zat rfl) ?_|refine Zhg (Zar rfl) ?_
      first|refine Zhg (Zl8 rfl) ?_|refine Zhg (Zce rfl) ?_
      refine Zhp rfl qH rfl ?_
      first|refine Zhg (Zcr rfl) ?_|refine Zhg (Zct) ?_|refine Zhg (Zcu rfl) ?_
      first|refine Zhg (Zmf rfl rfl) ?_|refine Zhg (Zbn rfl rfl) ?_
      refine Zhm 36 rfl (decide_eq_true (hn1)) ?_
      first|refine Zhg (Zau rfl) ?_|refine Zhg (Zar rfl) ?_
      first|refine Zhi rfl ?_|refine Zhj rfl ?_|(refine Zhh rfl ?_; (first|refine Zhg (Zat rfl) ?_|refine Zhg (Zar rfl) ?_))
      first|refine Zhi rfl ?_|refine Zhj rfl ?_|(refine Zhh rfl ?_; (first|refine Zhg (Zl8 rfl) ?_|refine Zhg (Zce rfl) ?_))
      first|refine Zhi rfl ?_|refine Zhj rfl ?_|(refine Zhh rfl ?_; (refine Zhp rfl qH rfl ?_))
      first|refine Zhi rfl ?_|refine Zhj rfl ?_|(refine Zhh rfl ?_; (first|refine Zhg (Zcr rfl) ?_|refine Zhg (Zct) ?_|refine Zhg (Zcu rfl) ?_))
      first|refine Zhi rfl ?_|refine Zhj rfl ?_|(refine Zhh rfl ?_; (first|refine Zhg (Zmf rfl rfl) ?_|refine Zhg (Zbn rfl rfl) ?_))
      first|refine Zhg (Zdz rfl rfl) ?_|refine Zhg (Zd0 rfl rfl) ?_|refine Zhg (Za8 rfl rfl) ?_|refine Zhg (Za9 rfl rfl) ?_|refine Zhg (Za6 rfl rfl) ?_|refine Zhg (Za7 rfl rfl) ?_
      refine Zg3 ?_
      refine Ct.o ?_
      refine Zge rfl ?_
      refine Ct.o ?_
      cases y1 with
      | false =>
        by_cases hn2 : i < st2.length
        · cases y2 with
          | false =>
            refine Ct.o ?_
            refine Zgb ?_
            first|refine Zhg (Zat rfl) ?_|refine Zhg (Zar rfl) ?_
            first|refine Zhg (Zl8 rfl) ?_|refine Zhg (Zce rfl) ?_
            refine Zhp rfl qH rfl ?_
            first|refine Zhg (Zcr rfl) ?_|refine Zhg (Zct) ?_|refine Zhg (Zcu rfl) ?_
            first|refine Zhg (Zmf rfl rfl) ?_|refine Zhg (Zbn rfl rfl) ?_
            refine Zhm 50 rfl (decide_eq_true (hn1)) ?_
            first|refine Zhg (Zau rfl) ?_|refine Zhg (Zar rfl) ?_
            first|refine Zhi rfl ?_|refine Zhj rfl ?_|(refine Zhh rfl ?_; (first|refine Zhg (Zav rfl) ?_|refine Zhg (Zar rfl) ?_))
            first|refine Zhi rfl ?_|refine Zhj rfl ?_|(refine Zhh rfl ?_; (refine Zhg (Zcb rfl rfl) ?_))
            refine Zhn 53 rfl (rfl) ?_
            first|refine Zhg (Zdz rfl rfl) ?_|refine Zhg (Zd0 rfl rfl) ?_|refine Zhg (Za8 rfl rfl) ?_|refine Zhg (Za9 rfl rfl) ?_|refine Zhg (Za6 rfl rfl) ?_|refine Zhg (Za7 rfl rfl) ?_
            first|refine Zhg (Zau rfl) ?_|refine Zhg (Zar rfl) ?_
            first|refine Zhi rfl ?_|refine Zhj rfl ?_|(refine Zhh rfl ?_; (first|refine Zhg (Zav rfl) ?_|refine Zhg (Zar rfl) ?_))
            first|refine Zhi rfl ?_|refine Zhj rfl ?_|(refine Zhh rfl ?_; (first|refine Zhg (Zav rfl) ?_|refine Zhg (Zar rfl) ?_))
            first|refine Zhi rfl ?_|refine Zhj rfl ?_|(refine Zhh rfl ?_; (first|refine Zhg (Zl8 rfl) ?_|refine Zhg (Zce rfl) ?_))
            first|refine Zhi rfl ?_|refine Zhj rfl ?_|(refine Zhh rfl ?_; (refine Zhp rfl qH rfl ?_))
            first|refine Zhi rfl ?_|refine Zhj rfl ?_|(refine Zhh rfl ?_; (first|refine Zhg (Zat rfl) ?_|refine Zhg (Zar rfl) ?_))
            first|refine Zhi rfl ?_|refine Zhj rfl ?_|(refine Zhh rfl ?_; (first|refine Zhg (Zl6 rfl rfl) ?_|refine Zhg (Zcg rfl rfl) ?_))
            first|refine Zhi rfl ?_|refine Zhj rfl ?_|(refine Zhh rfl ?_; (first|refine Zhr rfl qH qZ ?_|refine Zhq rfl qH qZ rfl ?_))
            first|refine Zhi rfl ?_|refine Zhj rfl ?_
            first|refine Zhi rfl ?_|refine Zhj rfl ?_|(refine Zhh rfl ?_; (first|refine Zhg (Zb1 rfl) ?_|refine Zhg (Zb0 rfl) ?_))
            first|refine Zhg (Zdz rfl rfl) ?_|refine Zhg (Zd0 rfl rfl) ?_|refine Zhg (Za8 rfl rfl) ?_|refine Zhg (Za9 rfl rfl) ?_|refine Zhg (Za6 rfl rfl) ?_|refine Zhg (Za7 rfl rfl) ?_
            first|refine Zhg (Zau rfl) ?_|refine Zhg (Zar rfl) ?_
            first|refine Zhi rfl ?_|refine Zhj rfl ?_|(refine Zhh rfl ?_; (first|refine Zhg (Zat rfl) ?_|refine Zhg (Zar rfl) ?_))
            first|refine Zhi rfl ?_|refine Zhj rfl ?_|(refine Zhh rfl ?_; (first|refine Zhg (Zl8 rfl) ?_|refine Zhg (Zce rfl) ?_))
            first|refine Zhi rfl ?_|refine Zhj rfl ?_|(refine Zhh rfl ?_; (refine Zhp rfl qH rfl ?_))
            first|refine Zhi rfl ?_|refine Zhj rfl ?_|(refine Zhh rfl ?_; (first|refine Zhg (Zcr rfl) ?_|refine Zhg (Zct) ?_|refine Zhg (Zcu rfl) ?_))
            first|refine Zhi rfl ?_|refine Zhj rfl ?_|(refine Zhh rfl ?_; (first|refine Zhg (Zmf rfl rfl) ?_|refine Zhg (Zbn rfl rfl) ?_))
            refine Zhm 71 rfl (decide_eq_true (hn2)) ?_
            first|refine Zhi rfl ?_|refine Zhj rfl ?_|(refine Zhh rfl ?_; (first|refine Zhg (Zau rfl) ?_|refine Zhg (Zar rfl) ?_))
            first|refine Zhi rfl ?_|refine Zhj rfl ?_|(refine Zhh rfl ?_; (first|refine Zhg (Zav rfl) ?_|refine Zhg (Zar rfl) ?_))
            first|refine Zhi rfl ?_|refine Zhj rfl ?_|(refine Zhh rfl ?_; (refine Zhg (Zcb rfl rfl) ?_))
            refine Zhn 74 rfl (rfl) ?_
            first|refine Zhi rfl ?_|refine Zhj rfl ?_|(refine Zhh rfl ?_; (first|refine Zhg (Zdz rfl rfl) ?_|refine Zhg (Zd0 rfl rfl) ?_|refine Zhg (Za8 rfl rfl) ?_|refine Zhg (Za9 rfl rfl) ?_|refine Zhg (Za6 rfl rfl) ?_|refine Zhg (Za7 rfl rfl) ?_))
            first|refine Zhi rfl ?_|refine Zhj rfl ?_|(refine Zhh rfl ?_; (first|refine Zhg (Zau rfl) ?_|refine Zhg (Zar rfl) ?_))
            first|refine Zhi rfl ?_|refine Zhj rfl ?_|(refine Zhh rfl ?_; (first|refine Zhg (Zav rfl) ?_|refine Zhg (Zar rfl) ?_))
            first|refine Zhi rfl ?_|refine Zhj rfl ?_|(refine Zhh rfl ?_; (first|refine Zhg (Zav rfl) ?_|refine Zhg (Zar rfl) ?_))
            first|refine Zhi rfl ?_|refine Zhj rfl ?_|(refine Zhh rfl ?_; (first|refine Zhg (Zl8 rfl) ?_|refine Zhg (Zce rfl) ?_))
            first|refine Zhi rfl ?_|refine Zhj rfl ?_|(refine Zhh rfl ?_; (refine Zhp rfl qH rfl ?_))
            first|refine Zhi rfl ?_|refine Zhj rfl ?_|(refine Zhh rfl ?_; (first|refine Zhg (Zat rfl) ?_|refine Zhg (Zar rfl) ?_))
            first|refine Zhi rfl ?_|refine Zhj rfl ?_|(refine Zhh rfl ?_; (first|refine Zhg (Zl6 rfl rfl) ?_|refine Zhg (Zcg rfl rfl) ?_))
            first|refine Zhi rfl ?_|refine Zhj rfl ?_|(refine Zhh rfl ?_; (first|refine Zhr rfl qH qZ ?_|refine Zhq rfl qH qZ rfl ?_))
            first|refine Zhi rfl ?_|refine Zhj rfl ?_
            first|refine Zhi rfl ?_|refine Zhj rfl ?_|(refine Zhh rfl ?_; (first|refine Zhg (Zb1 rfl) ?_|refine Zhg (Zb0 rfl) ?_))
            first|refine Zhi rfl ?_|refine Zhj rfl ?_|(refine Zhh rfl ?_; (first|refine Zhg (Zdz rfl rfl) ?_|refine Zhg (Zd0 rfl rfl) ?_|refine Zhg (Za8 rfl rfl) ?_|refine Zhg (Za9 rfl rfl) ?_|refine Zhg (Za6 rfl rfl) ?_|refine Zhg (Za7 rfl rfl) ?_))
            first|refine Zhg (Zdz rfl rfl) ?_|refine Zhg (Zd0 rfl rfl) ?_|refine Zhg (Za8 rfl rfl) ?_|refine Zhg (Za9 rfl rfl) ?_|refine Zhg (Za6 rfl rfl) ?_|refine Zhg (Za7 rfl rfl) ?_
            refine Zg3 ?_
            refine Ct.o ?_
            refine Zgf rfl ?_
            refine Ct.o ?_
            refine Zgb ?_
            first|refine Zhg (Zat rfl) ?_|refine Zhg (Zar rfl) ?_
            first|refine Zhg (Zma (b := 1) rfl rfl) ?_|refine Zhg (Zbg rfl rfl) ?_
            first|refine Zhg (Zaz rfl) ?_|refine Zhg (Zas rfl) ?_
            refine Zg3 ?_
            refine Ct.o ?_
            exact Zgl (i + 1, s, z) qO ⟨by dsimp only; omega, (by dsimp only; omega), hl1, (by dsimp only; omega), hl2⟩ qI ⟨rfl, trivial⟩
          | true =>
            refine Zgt (fun F w H => (hs2.rd.imp (Imp.arr (M := _) qV)).someAt (by omega) H) ?_
            rintro ⟨t1a, t1b, rfl⟩
            refine Zgt (fun F w H => two_ok (ph := pg) (q := q2) (s := z) (fl := fl2) qH H) ?_
            intro hok2
            obtain ⟨hbd2, hbl2⟩ := hs2.el st2[i] (List.getElem_mem hn2)
            have hag2 := hs2.at hn2 rfl
            generalize st2[i] = x2 at hbd2 hbl2 hag2
            have htl2 := told_log (pS x2) hok2 hl2
            refine Ct.o ?_
            refine Zgb ?_
            first|refine Zhg (Zat rfl) ?_|refine Zhg (Zar rfl) ?_
            first|refine Zhg (Zl8 rfl) ?_|refine Zhg (Zce rfl) ?_
            refine Zhp rfl qH rfl ?_
            first|refine Zhg (Zcr rfl) ?_|refine Zhg (Zct) ?_|refine Zhg (Zcu rfl) ?_
            first|refine Zhg (Zmf rfl rfl) ?_|refine Zhg (Zbn rfl rfl) ?_
            refine Zhm 50 rfl (decide_eq_true (hn1)) ?_
            first|refine Zhg (Zau rfl) ?_|refine Zhg (Zar rfl) ?_
            first|refine Zhi rfl ?_|refine Zhj rfl ?_|(refine Zhh rfl ?_; (first|refine Zhg (Zav rfl) ?_|refine Zhg (Zar rfl) ?_))
            first|refine Zhi rfl ?_|refine Zhj rfl ?_|(refine Zhh rfl ?_; (refine Zhg (Zcb rfl rfl) ?_))
            refine Zhn 53 rfl (rfl) ?_
            first|refine Zhg (Zdz rfl rfl) ?_|refine Zhg (Zd0 rfl rfl) ?_|refine Zhg (Za8 rfl rfl) ?_|refine Zhg (Za9 rfl rfl) ?_|refine Zhg (Za6 rfl rfl) ?_|refine Zhg (Za7 rfl rfl) ?_
            first|refine Zhg (Zau rfl) ?_|refine Zhg (Zar rfl) ?_
            first|refine Zhi rfl ?_|refine Zhj rfl ?_|(refine Zhh rfl ?_; (first|refine Zhg (Zav rfl) ?_|refine Zhg (Zar rfl) ?_))
            first|refine Zhi rfl ?_|refine Zhj rfl ?_|(refine Zhh rfl ?_; (first|refine Zhg (Zav rfl) ?_|refine Zhg (Zar rfl) ?_))
            first|refine Zhi rfl ?_|refine Zhj rfl ?_|(refine Zhh rfl ?_; (first|refine Zhg (Zl8 rfl) ?_|refine Zhg (Zce rfl) ?_))
            first|refine Zhi rfl ?_|refine Zhj rfl ?_|(refine Zhh rfl ?_; (refine Zhp rfl qH rfl ?_))
            first|refine Zhi rfl ?_|refine Zhj rfl ?_|(refine Zhh rfl ?_; (first|refine Zhg (Zat rfl) ?_|refine Zhg (Zar rfl) ?_))
            first|refine Zhi rfl ?_|refine Zhj rfl ?_|(refine Zhh rfl ?_; (first|refine Zhg (Zl6 rfl rfl) ?_|refine Zhg (Zcg rfl rfl) ?_))
            first|refine Zhi rfl ?_|refine Zhj rfl ?_|(refine Zhh rfl ?_; (first|refine Zhr rfl qH qZ ?_|refine Zhq rfl qH qZ rfl ?_))
            first|refine Zhi rfl ?_|refine Zhj rfl ?_
            first|refine Zhi rfl ?_|refine Zhj rfl ?_|(refine Zhh rfl ?_; (first|refine Zhg (Zb1 rfl) ?_|refine Zhg (Zb0 rfl) ?_))
            first|refine Zhg (Zdz rfl rfl) ?_|refine Zhg (Zd0 rfl rfl) ?_|refine Zhg (Za8 rfl rfl) ?_|refine Zhg (Za9 rfl rfl) ?_|refine Zhg (Za6 rfl rfl) ?_|refine Zhg (Za7 rfl rfl) ?_
            first|refine Zhg (Zau rfl) ?_|refine Zhg (Zar rfl) ?_
            first|refine Zhi rfl ?_|refine Zhj rfl ?_|(refine Zhh rfl ?_; (first|refine Zhg (Zat rfl) ?_|refine Zhg (Zar rfl) ?_))
            first|refine Zhi rfl ?_|refine Zhj rfl ?_|(refine Zhh rfl ?_; (first|refine Zhg (Zl8 rfl) ?_|refine Zhg (Zce rfl) ?_))
            first|refine Zhi rfl ?_|refine Zhj rfl ?_|(refine Zhh rfl ?_; (refine Zhp rfl qH rfl ?_))
            first|refine Zhi rfl ?_|refine Zhj rfl ?_|(refine Zhh rfl ?_; (first|refine Zhg (Zcr rfl) ?_|refine Zhg (Zct) ?_|refine Zhg (Zcu rfl) ?_))
            first|refine Zhi rfl ?_|refine Zhj rfl ?_|(refine Zhh rfl ?_; (first|refine Zhg (Zmf rfl rfl) ?_|refine Zhg (Zbn rfl rfl) ?_))
            refine Zhm 71 rfl (decide_eq_true (hn2)) ?_
            first|refine Zhi rfl ?_|refine Zhj rfl ?_|(refine Zhh rfl ?_; (first|refine Zhg (Zau rfl) ?_|refine Zhg (Zar rfl) ?_))
            first|refine Zhi rfl ?_|refine Zhj rfl ?_|(refine Zhh rfl ?_; (first|refine Zhg (Zav rfl) ?_|refine Zhg (Zar rfl) ?_))
            first|refine Zhi rfl ?_|refine Zhj rfl ?_|(refine Zhh rfl ?_; (refine Zhg (Zcb rfl rfl) ?_))
            refine Zhm 74 rfl (rfl) ?_
            first|refine Zhi rfl ?_|refine Zhj rfl ?_|(refine Zhh rfl ?_; (first|refine Zhg (Zdz rfl rfl) ?_|refine Zhg (Zd0 rfl rfl) ?_|refine Zhg (Za8 rfl rfl) ?_|refine Zhg (Za9 rfl rfl) ?_|refine Zhg (Za6 rfl rfl) ?_|refine Zhg (Za7 rfl rfl) ?_))
            first|refine Zhi rfl ?_|refine Zhj rfl ?_|(refine Zhh rfl ?_; (first|refine Zhg (Zau rfl) ?_|refine Zhg (Zar rfl) ?_))
            first|refine Zhi rfl ?_|refine Zhj rfl ?_|(refine Zhh rfl ?_; (first|refine Zhg (Zav rfl) ?_|refine Zhg (Zar rfl) ?_))
            first|refine Zhi rfl ?_|refine Zhj rfl ?_|(refine Zhh rfl ?_; (first|refine Zhg (Zav rfl) ?_|refine Zhg (Zar rfl) ?_))
            first|refine Zhi rfl ?_|refine Zhj rfl ?_|(refine Zhh rfl ?_; (first|refine Zhg (Zl8 rfl) ?_|refine Zhg (Zce rfl) ?_))
            first|refine Zhi rfl ?_|refine Zhj rfl ?_|(refine Zhh rfl ?_; (refine Zhp rfl qH rfl ?_))
            first|refine Zhi rfl ?_|refine Zhj rfl ?_|(refine Zhh rfl ?_; (first|refine Zhg (Zat rfl) ?_|refine Zhg (Zar rfl) ?_))
            first|refine Zhi rfl ?_|refine Zhj rfl ?_|(refine Zhh rfl ?_; (first|refine Zhg (Zl6 rfl rfl) ?_|refine Zhg (Zcg rfl rfl) ?_))
            first|refine Zhi rfl ?_|refine Zhj rfl ?_|(refine Zhh rfl ?_; (refine Zfg rfl ((hag2.imp qI)) ?_))
            first|refine Zhi rfl ?_|refine Zhj rfl ?_|(refine Zhh rfl ?_; (refine Zh8 rfl (by kernel_rfl) (step_x (L := L) (pS x2) hbd2 hbl2 (by omega) hl2) rfl qT ?_); (rintro _ _ ⟨rfl, rfl⟩); (refine Zg2 qA ?_))
            first|refine Zhi rfl ?_|refine Zhj rfl ?_|(refine Zhh rfl ?_; (refine Zhg (Zb0 rfl) ?_))
            refine Zhn 85 rfl (rfl) ?_
            first|refine Zhi rfl ?_|refine Zhj rfl ?_|(refine Zhh rfl ?_; (first|refine Zhg (Zdz rfl rfl) ?_|refine Zhg (Zd0 rfl rfl) ?_|refine Zhg (Za8 rfl rfl) ?_|refine Zhg (Za9 rfl rfl) ?_|refine Zhg (Za6 rfl rfl) ?_|refine Zhg (Za7 rfl rfl) ?_))
            first|refine Zhg (Zdz rfl rfl) ?_|refine Zhg (Zd0 rfl rfl) ?_|refine Zhg (Za8 rfl rfl) ?_|refine Zhg (Za9 rfl rfl) ?_|refine Zhg (Za6 rfl rfl) ?_|refine Zhg (Za7 rfl rfl) ?_
            refine Zg3 ?_
            refine Ct.o ?_
            refine Zgf rfl ?_
            refine Ct.o ?_
            refine Zgb ?_
            first|refine Zhg (Zat rfl) ?_|refine Zhg (Zar rfl) ?_
            first|refine Zhg (Zma (b := 1) rfl rfl) ?_|refine Zhg (Zbg rfl rfl) ?_
            first|refine Zhg (Zaz rfl) ?_|refine Zhg (Zas rfl) ?_
            refine Zg3 ?_
            refine Ct.o ?_
            exact Zgl (i + 1, s, (HostS.toldR z (pS x2)).2) qO ⟨by dsimp only; omega, (by dsimp only; omega), hl1, (Nat.le_trans htl2.2 (by omega)), htl2.1⟩ qI ⟨rfl, trivial⟩
        · refine Ct.o ?_
          refine Zgb ?_
          first|refine Zhg (Zat rfl) ?_|refine Zhg (Zar rfl) ?_
          first|refine Zhg (Zl8 rfl) ?_|refine Zhg (Zce rfl) ?_
          refine Zhp rfl qH rfl ?_
          first|refine Zhg (Zcr rfl) ?_|refine Zhg (Zct) ?_|refine Zhg (Zcu rfl) ?_
          first|refine Zhg (Zmf rfl rfl) ?_|refine Zhg (Zbn rfl rfl) ?_
          refine Zhm 50 rfl (decide_eq_true (hn1)) ?_
          first|refine Zhg (Zau rfl) ?_|refine Zhg (Zar rfl) ?_
          first|refine Zhi rfl ?_|refine Zhj rfl ?_|(refine Zhh rfl ?_; (first|refine Zhg (Zav rfl) ?_|refine Zhg (Zar rfl) ?_))
          first|refine Zhi rfl ?_|refine Zhj rfl ?_|(refine Zhh rfl ?_; (refine Zhg (Zcb rfl rfl) ?_))
          refine Zhn 53 rfl (rfl) ?_
          first|refine Zhg (Zdz rfl rfl) ?_|refine Zhg (Zd0 rfl rfl) ?_|refine Zhg (Za8 rfl rfl) ?_|refine Zhg (Za9 rfl rfl) ?_|refine Zhg (Za6 rfl rfl) ?_|refine Zhg (Za7 rfl rfl) ?_
          first|refine Zhg (Zau rfl) ?_|refine Zhg (Zar rfl) ?_
          first|refine Zhi rfl ?_|refine Zhj rfl ?_|(refine Zhh rfl ?_; (first|refine Zhg (Zav rfl) ?_|refine Zhg (Zar rfl) ?_))
          first|refine Zhi rfl ?_|refine Zhj rfl ?_|(refine Zhh rfl ?_; (first|refine Zhg (Zav rfl) ?_|refine Zhg (Zar rfl) ?_))
          first|refine Zhi rfl ?_|refine Zhj rfl ?_|(refine Zhh rfl ?_; (first|refine Zhg (Zl8 rfl) ?_|refine Zhg (Zce rfl) ?_))
          first|refine Zhi rfl ?_|refine Zhj rfl ?_|(refine Zhh rfl ?_; (refine Zhp rfl qH rfl ?_))
          first|refine Zhi rfl ?_|refine Zhj rfl ?_|(refine Zhh rfl ?_; (first|refine Zhg (Zat rfl) ?_|refine Zhg (Zar rfl) ?_))
          first|refine Zhi rfl ?_|refine Zhj rfl ?_|(refine Zhh rfl ?_; (first|refine Zhg (Zl6 rfl rfl) ?_|refine Zhg (Zcg rfl rfl) ?_))
          first|refine Zhi rfl ?_|refine Zhj rfl ?_|(refine Zhh rfl ?_; (first|refine Zhr rfl qH qZ ?_|refine Zhq rfl qH qZ rfl ?_))
          first|refine Zhi rfl ?_|refine Zhj rfl ?_
          first|refine Zhi rfl ?_|refine Zhj rfl ?_|(refine Zhh rfl ?_; (first|refine Zhg (Zb1 rfl) ?_|refine Zhg (Zb0 rfl) ?_))
          first|refine Zhg (Zdz rfl rfl) ?_|refine Zhg (Zd0 rfl rfl) ?_|refine Zhg (Za8 rfl rfl) ?_|refine Zhg (Za9 rfl rfl) ?_|refine Zhg (Za6 rfl rfl) ?_|refine Zhg (Za7 rfl rfl) ?_
          first|refine Zhg (Zau rfl) ?_|refine Zhg (Zar rfl) ?_
          first|refine Zhi rfl ?_|refine Zhj rfl ?_|(refine Zhh rfl ?_; (first|refine Zhg (Zat rfl) ?_|refine Zhg (Zar rfl) ?_))
          first|refine Zhi rfl ?_|refine Zhj rfl ?_|(refine Zhh rfl ?_; (first|refine Zhg (Zl8 rfl) ?_|refine Zhg (Zce rfl) ?_))
          first|refine Zhi rfl ?_|refine Zhj rfl ?_|(refine Zhh rfl ?_; (refine Zhp rfl qH rfl ?_))
          first|refine Zhi rfl ?_|refine Zhj rfl ?_|(refine Zhh rfl ?_; (first|refine Zhg (Zcr rfl) ?_|refine Zhg (Zct) ?_|refine Zhg (Zcu rfl) ?_))
          first|refine Zhi rfl ?_|refine Zhj rfl ?_|(refine Zhh rfl ?_; (first|refine Zhg (Zmf rfl rfl) ?_|refine Zhg (Zbn rfl rfl) ?_))
          refine Zhn 71 rfl (decide_eq_false (hn2)) ?_
          first|refine Zhi rfl ?_|refine Zhj rfl ?_|(refine Zhh rfl ?_; (first|refine Zhg (Zau rfl) ?_|refine Zhg (Zar rfl) ?_))
          first|refine Zhi rfl ?_|refine Zhj rfl ?_|(refine Zhh rfl ?_; (first|refine Zhg (Zav rfl) ?_|refine Zhg (Zar rfl) ?_))
          first|refine Zhi rfl ?_|refine Zhj rfl ?_|(refine Zhh rfl ?_; (refine Zhg (Zcb rfl rfl) ?_))
          first|refine Zhi rfl ?_|refine Zhj rfl ?_|(refine Zhh rfl ?_; (first|refine Zhg (Zdz rfl rfl) ?_|refine Zhg (Zd0 rfl rfl) ?_|refine Zhg (Za8 rfl rfl) ?_|refine Zhg (Za9 rfl rfl) ?_|refine Zhg (Za6 rfl rfl) ?_|refine Zhg (Za7 rfl rfl) ?_))
          first|refine Zhi rfl ?_|refine Zhj rfl ?_|(refine Zhh rfl ?_; (first|refine Zhg (Zau rfl) ?_|refine Zhg (Zar rfl) ?_))
          first|refine Zhi rfl ?_|refine Zhj rfl ?_|(refine Zhh rfl ?_; (first|refine Zhg (Zav rfl) ?_|refine Zhg (Zar rfl) ?_))
          first|refine Zhi rfl ?_|refine Zhj rfl ?_|(refine Zhh rfl ?_; (first|refine Zhg (Zav rfl) ?_|refine Zhg (Zar rfl) ?_))
          first|refine Zhi rfl ?_|refine Zhj rfl ?_|(refine Zhh rfl ?_; (first|refine Zhg (Zl8 rfl) ?_|refine Zhg (Zce rfl) ?_))
          first|refine Zhi rfl ?_|refine Zhj rfl ?_|(refine Zhh rfl ?_; (refine Zhp rfl qH rfl ?_))
          first|refine Zhi rfl ?_|refine Zhj rfl ?_|(refine Zhh rfl ?_; (first|refine Zhg (Zat rfl) ?_|refine Zhg (Zar rfl) ?_))
          first|refine Zhi rfl ?_|refine Zhj rfl ?_|(refine Zhh rfl ?_; (first|refine Zhg (Zl6 rfl rfl) ?_|refine Zhg (Zcg rfl rfl) ?_))
          first|refine Zhi rfl ?_|refine Zhj rfl ?_|(refine Zhh rfl ?_; (first|refine Zhr rfl qH qZ ?_|refine Zhq rfl qH qZ rfl ?_))
          first|refine Zhi rfl ?_|refine Zhj rfl ?_
          first|refine Zhi rfl ?_|refine Zhj rfl ?_|(refine Zhh rfl ?_; (first|refine Zhg (Zb1 rfl) ?_|refine Zhg (Zb0 rfl) ?_))
          first|refine Zhi rfl ?_|refine Zhj rfl ?_|(refine Zhh rfl ?_; (first|refine Zhg (Zdz rfl rfl) ?_|refine Zhg (Zd0 rfl rfl) ?_|refine Zhg (Za8 rfl rfl) ?_|refine Zhg (Za9 rfl rfl) ?_|refine Zhg (Za6 rfl rfl) ?_|refine Zhg (Za7 rfl rfl) ?_))
          first|refine Zhg (Zdz rfl rfl) ?_|refine Zhg (Zd0 rfl rfl) ?_|refine Zhg (Za8 rfl rfl) ?_|refine Zhg (Za9 rfl rfl) ?_|refine Zhg (Za6 rfl rfl) ?_|refine Zhg (Za7 rfl rfl) ?_
          refine Zg3 ?_
          refine Ct.o ?_
          refine Zgf rfl ?_
          refine Ct.o ?_
          refine Zgb ?_
          first|refine Zhg (Zat rfl) ?_|refine Zhg (Zar rfl) ?_
          first|refine Zhg (Zma (b := 1) rfl rfl) ?_|refine Zhg (Zbg rfl rfl) ?_
          first|refine Zhg (Zaz rfl) ?_|refine Zhg (Zas rfl) ?_
          refine Zg3 ?_
          refine Ct.o ?_
          exact Zgl (i + 1, s, z) qO ⟨by dsimp only; omega, (by dsimp only; omega), hl1, (by dsimp only; omega), hl2⟩ qI ⟨rfl, trivial⟩
      | true =>
        by_cases hn2 : i < st2.length
        · cases y2 with
          | false =>
            refine Zgt (fun F w H => (hs.rd.imp (Imp.arr (M := _) qV)).someAt (by omega) H) ?_
            rintro ⟨s1a, s1b, rfl⟩
            refine Zgt (fun F w H => two_ok (ph := ph) (q := q) (s := s) (fl := fl) qH H) ?_
            intro hok1
            obtain ⟨hbd1, hbl1⟩ := hs.el st[i] (List.getElem_mem hn1)
            have hag1 := hs.at hn1 rfl
            generalize st[i] = x1 at hbd1 hbl1 hag1
            have htl1 := told_log (pS x1) hok1 hl1
            refine Ct.o ?_
            refine Zgb ?_
            first|refine Zhg (Zat rfl) ?_|refine Zhg (Zar rfl) ?_
            first|refine Zhg (Zl8 rfl) ?_|refine Zhg (Zce rfl) ?_
            refine Zhp rfl qH rfl ?_
            first|refine Zhg (Zcr rfl) ?_|refine Zhg (Zct) ?_|refine Zhg (Zcu rfl) ?_
            first|refine Zhg (Zmf rfl rfl) ?_|refine Zhg (Zbn rfl rfl) ?_
            refine Zhm 50 rfl (decide_eq_true (hn1)) ?_
            first|refine Zhg (Zau rfl) ?_|refine Zhg (Zar rfl) ?_
            first|refine Zhi rfl ?_|refine Zhj rfl ?_|(refine Zhh rfl ?_; (first|refine Zhg (Zav rfl) ?_|refine Zhg (Zar rfl) ?_))
            first|refine Zhi rfl ?_|refine Zhj rfl ?_|(refine Zhh rfl ?_; (refine Zhg (Zcb rfl rfl) ?_))
            refine Zhm 53 rfl (rfl) ?_
            first|refine Zhg (Zdz rfl rfl) ?_|refine Zhg (Zd0 rfl rfl) ?_|refine Zhg (Za8 rfl rfl) ?_|refine Zhg (Za9 rfl rfl) ?_|refine Zhg (Za6 rfl rfl) ?_|refine Zhg (Za7 rfl rfl) ?_
            first|refine Zhg (Zau rfl) ?_|refine Zhg (Zar rfl) ?_
            first|refine Zhi rfl ?_|refine Zhj rfl ?_|(refine Zhh rfl ?_; (first|refine Zhg (Zav rfl) ?_|refine Zhg (Zar rfl) ?_))
            first|refine Zhi rfl ?_|refine Zhj rfl ?_|(refine Zhh rfl ?_; (first|refine Zhg (Zav rfl) ?_|refine Zhg (Zar rfl) ?_))
            first|refine Zhi rfl ?_|refine Zhj rfl ?_|(refine Zhh rfl ?_; (first|refine Zhg (Zl8 rfl) ?_|refine Zhg (Zce rfl) ?_))
            first|refine Zhi rfl ?_|refine Zhj rfl ?_|(refine Zhh rfl ?_; (refine Zhp rfl qH rfl ?_))
            first|refine Zhi rfl ?_|refine Zhj rfl ?_|(refine Zhh rfl ?_; (first|refine Zhg (Zat rfl) ?_|refine Zhg (Zar rfl) ?_))
            first|refine Zhi rfl ?_|refine Zhj rfl ?_|(refine Zhh rfl ?_; (first|refine Zhg (Zl6 rfl rfl) ?_|refine Zhg (Zcg rfl rfl) ?_))
            first|refine Zhi rfl ?_|refine Zhj rfl ?_|(refine Zhh rfl ?_; (refine Zfg rfl ((hag1.imp qI)) ?_))
            first|refine Zhi rfl ?_|refine Zhj rfl ?_|(refine Zhh rfl ?_; (refine Zh8 rfl (by kernel_rfl) (step_x (L := L) (pS x1) hbd1 hbl1 (by omega) hl1) rfl qT ?_); (rintro _ _ ⟨rfl, rfl⟩); (refine Zg2 qA ?_))
            first|refine Zhi rfl ?_|refine Zhj rfl ?_|(refine Zhh rfl ?_; (refine Zhg (Zb0 rfl) ?_))
            refine Zhn 64 rfl (rfl) ?_
            first|refine Zhg (Zdz rfl rfl) ?_|refine Zhg (Zd0 rfl rfl) ?_|refine Zhg (Za8 rfl rfl) ?_|refine Zhg (Za9 rfl rfl) ?_|refine Zhg (Za6 rfl rfl) ?_|refine Zhg (Za7 rfl rfl) ?_
            first|refine Zhg (Zau rfl) ?_|refine Zhg (Zar rfl) ?_
            first|refine Zhi rfl ?_|refine Zhj rfl ?_|(refine Zhh rfl ?_; (first|refine Zhg (Zat rfl) ?_|refine Zhg (Zar rfl) ?_))
            first|refine Zhi rfl ?_|refine Zhj rfl ?_|(refine Zhh rfl ?_; (first|refine Zhg (Zl8 rfl) ?_|refine Zhg (Zce rfl) ?_))
            first|refine Zhi rfl ?_|refine Zhj rfl ?_|(refine Zhh rfl ?_; (refine Zhp rfl qH rfl ?_))
            first|refine Zhi rfl ?_|refine Zhj rfl ?_|(refine Zhh rfl ?_; (first|refine Zhg (Zcr rfl) ?_|refine Zhg (Zct) ?_|refine Zhg (Zcu rfl) ?_))
            first|refine Zhi rfl ?_|refine Zhj rfl ?_|(refine Zhh rfl ?_; (first|refine Zhg (Zmf rfl rfl) ?_|refine Zhg (Zbn rfl rfl) ?_))
            refine Zhm 71 rfl (decide_eq_true (hn2)) ?_
            first|refine Zhi rfl ?_|refine Zhj rfl ?_|(refine Zhh rfl ?_; (first|refine Zhg (Zau rfl) ?_|refine Zhg (Zar rfl) ?_))
            first|refine Zhi rfl ?_|refine Zhj rfl ?_|(refine Zhh rfl ?_; (first|refine Zhg (Zav rfl) ?_|refine Zhg (Zar rfl) ?_))
            first|refine Zhi rfl ?_|refine Zhj rfl ?_|(refine Zhh rfl ?_; (refine Zhg (Zcb rfl rfl) ?_))
            refine Zhn 74 rfl (rfl) ?_
            first|refine Zhi rfl ?_|refine Zhj rfl ?_|(refine Zhh rfl ?_; (first|refine Zhg (Zdz rfl rfl) ?_|refine Zhg (Zd0 rfl rfl) ?_|refine Zhg (Za8 rfl rfl) ?_|refine Zhg (Za9 rfl rfl) ?_|refine Zhg (Za6 rfl rfl) ?_|refine Zhg (Za7 rfl rfl) ?_))
            first|refine Zhi rfl ?_|refine Zhj rfl ?_|(refine Zhh rfl ?_; (first|refine Zhg (Zau rfl) ?_|refine Zhg (Zar rfl) ?_))
            first|refine Zhi rfl ?_|refine Zhj rfl ?_|(refine Zhh rfl ?_; (first|refine Zhg (Zav rfl) ?_|refine Zhg (Zar rfl) ?_))
            first|refine Zhi rfl ?_|refine Zhj rfl ?_|(refine Zhh rfl ?_; (first|refine Zhg (Zav rfl) ?_|refine Zhg (Zar rfl) ?_))
            first|refine Zhi rfl ?_|refine Zhj rfl ?_|(refine Zhh rfl ?_; (first|refine Zhg (Zl8 rfl) ?_|refine Zhg (Zce rfl) ?_))
            first|refine Zhi rfl ?_|refine Zhj rfl ?_|(refine Zhh rfl ?_; (refine Zhp rfl qH rfl ?_))
            first|refine Zhi rfl ?_|refine Zhj rfl ?_|(refine Zhh rfl ?_; (first|refine Zhg (Zat rfl) ?_|refine Zhg (Zar rfl) ?_))
            first|refine Zhi rfl ?_|refine Zhj rfl ?_|(refine Zhh rfl ?_; (first|refine Zhg (Zl6 rfl rfl) ?_|refine Zhg (Zcg rfl rfl) ?_))
            first|refine Zhi rfl ?_|refine Zhj rfl ?_|(refine Zhh rfl ?_; (first|refine Zhr rfl qH qZ ?_|refine Zhq rfl qH qZ rfl ?_))
            first|refine Zhi rfl ?_|refine Zhj rfl ?_
            first|refine Zhi rfl ?_|refine Zhj rfl ?_|(refine Zhh rfl ?_; (first|refine Zhg (Zb1 rfl) ?_|refine Zhg (Zb0 rfl) ?_))
            first|refine Zhi rfl ?_|refine Zhj rfl ?_|(refine Zhh rfl ?_; (first|refine Zhg (Zdz rfl rfl) ?_|refine Zhg (Zd0 rfl rfl) ?_|refine Zhg (Za8 rfl rfl) ?_|refine Zhg (Za9 rfl rfl) ?_|refine Zhg (Za6 rfl rfl) ?_|refine Zhg (Za7 rfl rfl) ?_))
            first|refine Zhg (Zdz rfl rfl) ?_|refine Zhg (Zd0 rfl rfl) ?_|refine Zhg (Za8 rfl rfl) ?_|refine Zhg (Za9 rfl rfl) ?_|refine Zhg (Za6 rfl rfl) ?_|refine Zhg (Za7 rfl rfl) ?_
            refine Zg3 ?_
            refine Ct.o ?_
            refine Zgf rfl ?_
            refine Ct.o ?_
            refine Zgb ?_
            first|refine Zhg (Zat rfl) ?_|refine Zhg (Zar rfl) ?_
            first|refine Zhg (Zma (b := 1) rfl rfl) ?_|refine Zhg (Zbg rfl rfl) ?_
            first|refine Zhg (Zaz rfl) ?_|refine Zhg (Zas rfl) ?_
            refine Zg3 ?_
            refine Ct.o ?_
            exact Zgl (i + 1, (HostS.toldR s (pS x1)).2, z) qO ⟨by dsimp only; omega, (Nat.le_trans htl1.2 (by omega)), htl1.1, (by dsimp only; omega), hl2⟩ qI ⟨rfl, trivial⟩
          | true =>
            refine Zgt (fun F w H => (hs.rd.imp (Imp.arr (M := _) qV)).someAt (by omega) H) ?_
            rintro ⟨s1a, s1b, rfl⟩
            refine Zgt (fun F w H => two_ok (ph := ph) (q := q) (s := s) (fl := fl) qH H) ?_
            intro hok1
            obtain ⟨hbd1, hbl1⟩ := hs.el st[i] (List.getElem_mem hn1)
            have hag1 := hs.at hn1 rfl
            generalize st[i] = x1 at hbd1 hbl1 hag1
            have htl1 := told_log (pS x1) hok1 hl1
            refine Zgt (fun F w H => (hs2.rd.imp (Imp.arr (M := _) qV)).someAt (by omega) H) ?_
            rintro ⟨t1a, t1b, rfl⟩
            refine Zgt (fun F w H => two_ok (ph := pg) (q := q2) (s := z) (fl := fl2) qH H) ?_
            intro hok2
            obtain ⟨hbd2, hbl2⟩ := hs2.el st2[i] (List.getElem_mem hn2)
            have hag2 := hs2.at hn2 rfl
            generalize st2[i] = x2 at hbd2 hbl2 hag2
            have htl2 := told_log (pS x2) hok2 hl2
            refine Ct.o ?_
            refine Zgb ?_
            first|refine Zhg (Zat rfl) ?_|refine Zhg (Zar rfl) ?_
            first|refine Zhg (Zl8 rfl) ?_|refine Zhg (Zce rfl) ?_
            refine Zhp rfl qH rfl ?_
            first|refine Zhg (Zcr rfl) ?_|refine Zhg (Zct) ?_|refine Zhg (Zcu rfl) ?_
            first|refine Zhg (Zmf rfl rfl) ?_|refine Zhg (Zbn rfl rfl) ?_
            refine Zhm 50 rfl (decide_eq_true (hn1)) ?_
            first|refine Zhg (Zau rfl) ?_|refine Zhg (Zar rfl) ?_
            first|refine Zhi rfl ?_|refine Zhj rfl ?_|(refine Zhh rfl ?_; (first|refine Zhg (Zav rfl) ?_|refine Zhg (Zar rfl) ?_))
            first|refine Zhi rfl ?_|refine Zhj rfl ?_|(refine Zhh rfl ?_; (refine Zhg (Zcb rfl rfl) ?_))
            refine Zhm 53 rfl (rfl) ?_
            first|refine Zhg (Zdz rfl rfl) ?_|refine Zhg (Zd0 rfl rfl) ?_|refine Zhg (Za8 rfl rfl) ?_|refine Zhg (Za9 rfl rfl) ?_|refine Zhg (Za6 rfl rfl) ?_|refine Zhg (Za7 rfl rfl) ?_
            first|refine Zhg (Zau rfl) ?_|refine Zhg (Zar rfl) ?_
            first|refine Zhi rfl ?_|refine Zhj rfl ?_|(refine Zhh rfl ?_; (first|refine Zhg (Zav rfl) ?_|refine Zhg (Zar rfl) ?_))
            first|refine Zhi rfl ?_|refine Zhj rfl ?_|(refine Zhh rfl ?_; (first|refine Zhg (Zav rfl) ?_|refine Zhg (Zar rfl) ?_))
            first|refine Zhi rfl ?_|refine Zhj rfl ?_|(refine Zhh rfl ?_; (first|refine Zhg (Zl8 rfl) ?_|refine Zhg (Zce rfl) ?_))
            first|refine Zhi rfl ?_|refine Zhj rfl ?_|(refine Zhh rfl ?_; (refine Zhp rfl qH rfl ?_))
            first|refine Zhi rfl ?_|refine Zhj rfl ?_|(refine Zhh rfl ?_; (first|refine Zhg (Zat rfl) ?_|refine Zhg (Zar rfl) ?_))
            first|refine Zhi rfl ?_|refine Zhj rfl ?_|(refine Zhh rfl ?_; (first|refine Zhg (Zl6 rfl rfl) ?_|refine Zhg (Zcg rfl rfl) ?_))
            first|refine Zhi rfl ?_|refine Zhj rfl ?_|(refine Zhh rfl ?_; (refine Zfg rfl ((hag1.imp qI)) ?_))
            first|refine Zhi rfl ?_|refine Zhj rfl ?_|(refine Zhh rfl ?_; (refine Zh8 rfl (by kernel_rfl) (step_x (L := L) (pS x1) hbd1 hbl1 (by omega) hl1) rfl qT ?_); (rintro _ _ ⟨rfl, rfl⟩); (refine Zg2 qA ?_))
            first|refine Zhi rfl ?_|refine Zhj rfl ?_|(refine Zhh rfl ?_; (refine Zhg (Zb0 rfl) ?_))
            refine Zhn 64 rfl (rfl) ?_
            first|refine Zhg (Zdz rfl rfl) ?_|refine Zhg (Zd0 rfl rfl) ?_|refine Zhg (Za8 rfl rfl) ?_|refine Zhg (Za9 rfl rfl) ?_|refine Zhg (Za6 rfl rfl) ?_|refine Zhg (Za7 rfl rfl) ?_
            first|refine Zhg (Zau rfl) ?_|refine Zhg (Zar rfl) ?_
            first|refine Zhi rfl ?_|refine Zhj rfl ?_|(refine Zhh rfl ?_; (first|refine Zhg (Zat rfl) ?_|refine Zhg (Zar rfl) ?_))
            first|refine Zhi rfl ?_|refine Zhj rfl ?_|(refine Zhh rfl ?_; (first|refine Zhg (Zl8 rfl) ?_|refine Zhg (Zce rfl) ?_))
            first|refine Zhi rfl ?_|refine Zhj rfl ?_|(refine Zhh rfl ?_; (refine Zhp rfl qH rfl ?_))
            first|refine Zhi rfl ?_|refine Zhj rfl ?_|(refine Zhh rfl ?_; (first|refine Zhg (Zcr rfl) ?_|refine Zhg (Zct) ?_|refine Zhg (Zcu rfl) ?_))
            first|refine Zhi rfl ?_|refine Zhj rfl ?_|(refine Zhh rfl ?_; (first|refine Zhg (Zmf rfl rfl) ?_|refine Zhg (Zbn rfl rfl) ?_))
            refine Zhm 71 rfl (decide_eq_true (hn2)) ?_
            first|refine Zhi rfl ?_|refine Zhj rfl ?_|(refine Zhh rfl ?_; (first|refine Zhg (Zau rfl) ?_|refine Zhg (Zar rfl) ?_))
            first|refine Zhi rfl ?_|refine Zhj rfl ?_|(refine Zhh rfl ?_; (first|refine Zhg (Zav rfl) ?_|refine Zhg (Zar rfl) ?_))
            first|refine Zhi rfl ?_|refine Zhj rfl ?_|(refine Zhh rfl ?_; (refine Zhg (Zcb rfl rfl) ?_))
            refine Zhm 74 rfl (rfl) ?_
            first|refine Zhi rfl ?_|refine Zhj rfl ?_|(refine Zhh rfl ?_; (first|refine Zhg (Zdz rfl rfl) ?_|refine Zhg (Zd0 rfl rfl) ?_|refine Zhg (Za8 rfl rfl) ?_|refine Zhg (Za9 rfl rfl) ?_|refine Zhg (Za6 rfl rfl) ?_|refine Zhg (Za7 rfl rfl) ?_))
            first|refine Zhi rfl ?_|refine Zhj rfl ?_|(refine Zhh rfl ?_; (first|refine Zhg (Zau rfl) ?_|refine Zhg (Zar rfl) ?_))
            first|refine Zhi rfl ?_|refine Zhj rfl ?_|(refine Zhh rfl ?_; (first|refine Zhg (Zav rfl) ?_|refine Zhg (Zar rfl) ?_))
            first|refine Zhi rfl ?_|refine Zhj rfl ?_|(refine Zhh rfl ?_; (first|refine Zhg (Zav rfl) ?_|refine Zhg (Zar rfl) ?_))
            first|refine Zhi rfl ?_|refine Zhj rfl ?_|(refine Zhh rfl ?_; (first|refine Zhg (Zl8 rfl) ?_|refine Zhg (Zce rfl) ?_))
            first|refine Zhi rfl ?_|refine Zhj rfl ?_|(refine Zhh rfl ?_; (refine Zhp rfl qH rfl ?_))
            first|refine Zhi rfl ?_|refine Zhj rfl ?_|(refine Zhh rfl ?_; (first|refine Zhg (Zat rfl) ?_|refine Zhg (Zar rfl) ?_))
            first|refine Zhi rfl ?_|refine Zhj rfl ?_|(refine Zhh rfl ?_; (first|refine Zhg (Zl6 rfl rfl) ?_|refine Zhg (Zcg rfl rfl) ?_))
            first|refine Zhi rfl ?_|refine Zhj rfl ?_|(refine Zhh rfl ?_; (refine Zfg rfl ((hag2.imp qI)) ?_))
            first|refine Zhi rfl ?_|refine Zhj rfl ?_|(refine Zhh rfl ?_; (refine Zh8 rfl (by kernel_rfl) (step_x (L := L) (pS x2) hbd2 hbl2 (by omega) hl2) rfl qT ?_); (rintro _ _ ⟨rfl, rfl⟩); (refine Zg2 qA ?_))
            first|refine Zhi rfl ?_|refine Zhj rfl ?_|(refine Zhh rfl ?_; (refine Zhg (Zb0 rfl) ?_))
            refine Zhn 85 rfl (rfl) ?_
            first|refine Zhi rfl ?_|refine Zhj rfl ?_|(refine Zhh rfl ?_; (first|refine Zhg (Zdz rfl rfl) ?_|refine Zhg (Zd0 rfl rfl) ?_|refine Zhg (Za8 rfl rfl) ?_|refine Zhg (Za9 rfl rfl) ?_|refine Zhg (Za6 rfl rfl) ?_|refine Zhg (Za7 rfl rfl) ?_))
            first|refine Zhg (Zdz rfl rfl) ?_|refine Zhg (Zd0 rfl rfl) ?_|refine Zhg (Za8 rfl rfl) ?_|refine Zhg (Za9 rfl rfl) ?_|refine Zhg (Za6 rfl rfl) ?_|refine Zhg (Za7 rfl rfl) ?_
            refine Zg3 ?_
            refine Ct.o ?_
            refine Zgf rfl ?_
            refine Ct.o ?_
            refine Zgb ?_
            first|refine Zhg (Zat rfl) ?_|refine Zhg (Zar rfl) ?_
            first|refine Zhg (Zma (b := 1) rfl rfl) ?_|refine Zhg (Zbg rfl rfl) ?_
            first|refine Zhg (Zaz rfl) ?_|refine Zhg (Zas rfl) ?_
            refine Zg3 ?_
            refine Ct.o ?_
            exact Zgl (i + 1, (HostS.toldR s (pS x1)).2, (HostS.toldR z (pS x2)).2) qO ⟨by dsimp only; omega, (Nat.le_trans htl1.2 (by omega)), htl1.1, (Nat.le_trans htl2.2 (by omega)), htl2.1⟩ qI ⟨rfl, trivial⟩
        · refine Zgt (fun F w H => (hs.rd.imp (Imp.arr (M := _) qV)).someAt (by omega) H) ?_
          rintro ⟨s1a, s1b, rfl⟩
          refine Zgt (fun F w H => two_ok (ph := ph) (q := q) (s := s) (fl := fl) qH H) ?_
          intro hok1
          obtain ⟨hbd1, hbl1⟩ := hs.el st[i] (List.getElem_mem hn1)
          have hag1 := hs.at hn1 rfl
          generalize st[i] = x1 at hbd1 hbl1 hag1
          have htl1 := told_log (pS x1) hok1 hl1
          refine Ct.o ?_
          refine Zgb ?_
          first|refine Zhg (Zat rfl) ?_|refine Zhg (Zar rfl) ?_
          first|refine Zhg (Zl8 rfl) ?_|refine Zhg (Zce rfl) ?_
          refine Zhp rfl qH rfl ?_
          first|refine Zhg (Zcr rfl) ?_|refine Zhg (Zct) ?_|refine Zhg (Zcu rfl) ?_
          first|refine Zhg (Zmf rfl rfl) ?_|refine Zhg (Zbn rfl rfl) ?_
          refine Zhm 50 rfl (decide_eq_true (hn1)) ?_
          first|refine Zhg (Zau rfl) ?_|refine Zhg (Zar rfl) ?_
          first|refine Zhi rfl ?_|refine Zhj rfl ?_|(refine Zhh rfl ?_; (first|refine Zhg (Zav rfl) ?_|refine Zhg (Zar rfl) ?_))
          first|refine Zhi rfl ?_|refine Zhj rfl ?_|(refine Zhh rfl ?_; (refine Zhg (Zcb rfl rfl) ?_))
          refine Zhm 53 rfl (rfl) ?_
          first|refine Zhg (Zdz rfl rfl) ?_|refine Zhg (Zd0 rfl rfl) ?_|refine Zhg (Za8 rfl rfl) ?_|refine Zhg (Za9 rfl rfl) ?_|refine Zhg (Za6 rfl rfl) ?_|refine Zhg (Za7 rfl rfl) ?_
          first|refine Zhg (Zau rfl) ?_|refine Zhg (Zar rfl) ?_
          first|refine Zhi rfl ?_|refine Zhj rfl ?_|(refine Zhh rfl ?_; (first|refine Zhg (Zav rfl) ?_|refine Zhg (Zar rfl) ?_))
          first|refine Zhi rfl ?_|refine Zhj rfl ?_|(refine Zhh rfl ?_; (first|refine Zhg (Zav rfl) ?_|refine Zhg (Zar rfl) ?_))
          first|refine Zhi rfl ?_|refine Zhj rfl ?_|(refine Zhh rfl ?_; (first|refine Zhg (Zl8 rfl) ?_|refine Zhg (Zce rfl) ?_))
          first|refine Zhi rfl ?_|refine Zhj rfl ?_|(refine Zhh rfl ?_; (refine Zhp rfl qH rfl ?_))
          first|refine Zhi rfl ?_|refine Zhj rfl ?_|(refine Zhh rfl ?_; (first|refine Zhg (Zat rfl) ?_|refine Zhg (Zar rfl) ?_))
          first|refine Zhi rfl ?_|refine Zhj rfl ?_|(refine Zhh rfl ?_; (first|refine Zhg (Zl6 rfl rfl) ?_|refine Zhg (Zcg rfl rfl) ?_))
          first|refine Zhi rfl ?_|refine Zhj rfl ?_|(refine Zhh rfl ?_; (refine Zfg rfl ((hag1.imp qI)) ?_))
          first|refine Zhi rfl ?_|refine Zhj rfl ?_|(refine Zhh rfl ?_; (refine Zh8 rfl (by kernel_rfl) (step_x (L := L) (pS x1) hbd1 hbl1 (by omega) hl1) rfl qT ?_); (rintro _ _ ⟨rfl, rfl⟩); (refine Zg2 qA ?_))
          first|refine Zhi rfl ?_|refine Zhj rfl ?_|(refine Zhh rfl ?_; (refine Zhg (Zb0 rfl) ?_))
          refine Zhn 64 rfl (rfl) ?_
          first|refine Zhg (Zdz rfl rfl) ?_|refine Zhg (Zd0 rfl rfl) ?_|refine Zhg (Za8 rfl rfl) ?_|refine Zhg (Za9 rfl rfl) ?_|refine Zhg (Za6 rfl rfl) ?_|refine Zhg (Za7 rfl rfl) ?_
          first|refine Zhg (Zau rfl) ?_|refine Zhg (Zar rfl) ?_
          first|refine Zhi rfl ?_|refine Zhj rfl ?_|(refine Zhh rfl ?_; (first|refine Zhg (Zat rfl) ?_|refine Zhg (Zar rfl) ?_))
          first|refine Zhi rfl ?_|refine Zhj rfl ?_|(refine Zhh rfl ?_; (first|refine Zhg (Zl8 rfl) ?_|refine Zhg (Zce rfl) ?_))
          first|refine Zhi rfl ?_|refine Zhj rfl ?_|(refine Zhh rfl ?_; (refine Zhp rfl qH rfl ?_))
          first|refine Zhi rfl ?_|refine Zhj rfl ?_|(refine Zhh rfl ?_; (first|refine Zhg (Zcr rfl) ?_|refine Zhg (Zct) ?_|refine Zhg (Zcu rfl) ?_))
          first|refine Zhi rfl ?_|refine Zhj rfl ?_|(refine Zhh rfl ?_; (first|refine Zhg (Zmf rfl rfl) ?_|refine Zhg (Zbn rfl rfl) ?_))
          refine Zhn 71 rfl (decide_eq_false (hn2)) ?_
          first|refine Zhi rfl ?_|refine Zhj rfl ?_|(refine Zhh rfl ?_; (first|refine Zhg (Zau rfl) ?_|refine Zhg (Zar rfl) ?_))
          first|refine Zhi rfl ?_|refine Zhj rfl ?_|(refine Zhh rfl ?_; (first|refine Zhg (Zav rfl) ?_|refine Zhg (Zar rfl) ?_))
          first|refine Zhi rfl ?_|refine Zhj rfl ?_|(refine Zhh rfl ?_; (refine Zhg (Zcb rfl rfl) ?_))
          first|refine Zhi rfl ?_|refine Zhj rfl ?_|(refine Zhh rfl ?_; (first|refine Zhg (Zdz rfl rfl) ?_|refine Zhg (Zd0 rfl rfl) ?_|refine Zhg (Za8 rfl rfl) ?_|refine Zhg (Za9 rfl rfl) ?_|refine Zhg (Za6 rfl rfl) ?_|refine Zhg (Za7 rfl rfl) ?_))
          first|refine Zhi rfl ?_|refine Zhj rfl ?_|(refine Zhh rfl ?_; (first|refine Zhg (Zau rfl) ?_|refine Zhg (Zar rfl) ?_))
          first|refine Zhi rfl ?_|refine Zhj rfl ?_|(refine Zhh rfl ?_; (first|refine Zhg (Zav rfl) ?_|refine Zhg (Zar rfl) ?_))
          first|refine Zhi rfl ?_|refine Zhj rfl ?_|(refine Zhh rfl ?_; (first|refine Zhg (Zav rfl) ?_|refine Zhg (Zar rfl) ?_))
          first|refine Zhi rfl ?_|refine Zhj rfl ?_|(refine Zhh rfl ?_; (first|refine Zhg (Zl8 rfl) ?_|refine Zhg (Zce rfl) ?_))
          first|refine Zhi rfl ?_|refine Zhj rfl ?_|(refine Zhh rfl ?_; (refine Zhp rfl qH rfl ?_))
          first|refine Zhi rfl ?_|refine Zhj rfl ?_|(refine Zhh rfl ?_; (first|refine Zhg (Zat rfl) ?_|refine Zhg (Zar rfl) ?_))
          first|refine Zhi rfl ?_|refine Zhj rfl ?_|(refine Zhh rfl ?_; (first|refine Zhg (Zl6 rfl rfl) ?_|refine Zhg (Zcg rfl rfl) ?_))
          first|refine Zhi rfl ?_|refine Zhj rfl ?_|(refine Zhh rfl ?_; (first|refine Zhr rfl qH qZ ?_|refine Zhq rfl qH qZ rfl ?_))
          first|refine Zhi rfl ?_|refine Zhj rfl ?_
          first|refine Zhi rfl ?_|refine Zhj rfl ?_|(refine Zhh rfl ?_; (first|refine Zhg (Zb1 rfl) ?_|refine Zhg (Zb0 rfl) ?_))
          first|refine Zhi rfl ?_|refine Zhj rfl ?_|(refine Zhh rfl ?_; (first|refine Zhg (Zdz rfl rfl) ?_|refine Zhg (Zd0 rfl rfl) ?_|refine Zhg (Za8 rfl rfl) ?_|refine Zhg (Za9 rfl rfl) ?_|refine Zhg (Za6 rfl rfl) ?_|refine Zhg (Za7 rfl rfl) ?_))
          first|refine Zhg (Zdz rfl rfl) ?_|refine Zhg (Zd0 rfl rfl) ?_|refine Zhg (Za8 rfl rfl) ?_|refine Zhg (Za9 rfl rfl) ?_|refine Zhg (Za6 rfl rfl) ?_|refine Zhg (Za7 rfl rfl) ?_
          refine Zg3 ?_
          refine Ct.o ?_
          refine Zgf rfl ?_
          refine Ct.o ?_
          refine Zgb ?_
          first|refine Zhg (Zat rfl) ?_|refine Zhg (Zar rfl) ?_
          first|refine Zhg (Zma (b := 1) rfl rfl) ?_|refine Zhg (Zbg rfl rfl) ?_
          first|refine Zhg (Zaz rfl) ?_|refine Zhg (Zas rfl) ?_
          refine Zg3 ?_
          refine Ct.o ?_
          exact Zgl (i + 1, (HostS.toldR s (pS x1)).2, z) qO ⟨by dsimp only; omega, (Nat.le_trans htl1.2 (by omega)), htl1.1, (by dsimp only; omega), hl2⟩ qI ⟨rfl, trivial⟩
    · by_cases hn2 : i < st2.length
      · refine Ct.o ?_
        refine Zgb ?_
        first|refine Zhg (Zat rfl) ?_|refine Zhg (Zar rfl) ?_
        first|refine Zhg (Zl8 rfl) ?_|refine Zhg (Zce rfl) ?_
        refine Zhp rfl qH rfl ?_
        first|refine Zhg (Zcr rfl) ?_|refine Zhg (Zct) ?_|refine Zhg (Zcu rfl) ?_
        first|refine Zhg (Zmf rfl rfl) ?_|refine Zhg (Zbn rfl rfl) ?_
        refine Zhn 36 rfl (decide_eq_false (hn1)) ?_
        first|refine Zhg (Zau rfl) ?_|refine Zhg (Zar rfl) ?_
        first|refine Zhi rfl ?_|refine Zhj rfl ?_|(refine Zhh rfl ?_; (first|refine Zhg (Zat rfl) ?_|refine Zhg (Zar rfl) ?_))
        first|refine Zhi rfl ?_|refine Zhj rfl ?_|(refine Zhh rfl ?_; (first|refine Zhg (Zl8 rfl) ?_|refine Zhg (Zce rfl) ?_))
        first|refine Zhi rfl ?_|refine Zhj rfl ?_|(refine Zhh rfl ?_; (refine Zhp rfl qH rfl ?_))
        first|refine Zhi rfl ?_|refine Zhj rfl ?_|(refine Zhh rfl ?_; (first|refine Zhg (Zcr rfl) ?_|refine Zhg (Zct) ?_|refine Zhg (Zcu rfl) ?_))
        first|refine Zhi rfl ?_|refine Zhj rfl ?_|(refine Zhh rfl ?_; (first|refine Zhg (Zmf rfl rfl) ?_|refine Zhg (Zbn rfl rfl) ?_))
        refine Zhm 42 rfl (decide_eq_true (hn2)) ?_
        first|refine Zhg (Zdz rfl rfl) ?_|refine Zhg (Zd0 rfl rfl) ?_|refine Zhg (Za8 rfl rfl) ?_|refine Zhg (Za9 rfl rfl) ?_|refine Zhg (Za6 rfl rfl) ?_|refine Zhg (Za7 rfl rfl) ?_
        refine Zg3 ?_
        refine Ct.o ?_
        refine Zge rfl ?_
        refine Ct.o ?_
        cases y2 with
        | false =>
          refine Ct.o ?_
          refine Zgb ?_
          first|refine Zhg (Zat rfl) ?_|refine Zhg (Zar rfl) ?_
          first|refine Zhg (Zl8 rfl) ?_|refine Zhg (Zce rfl) ?_
          refine Zhp rfl qH rfl ?_
          first|refine Zhg (Zcr rfl) ?_|refine Zhg (Zct) ?_|refine Zhg (Zcu rfl) ?_
          first|refine Zhg (Zmf rfl rfl) ?_|refine Zhg (Zbn rfl rfl) ?_
          refine Zhn 50 rfl (decide_eq_false (hn1)) ?_
          first|refine Zhg (Zau rfl) ?_|refine Zhg (Zar rfl) ?_
          first|refine Zhi rfl ?_|refine Zhj rfl ?_|(refine Zhh rfl ?_; (first|refine Zhg (Zav rfl) ?_|refine Zhg (Zar rfl) ?_))
          first|refine Zhi rfl ?_|refine Zhj rfl ?_|(refine Zhh rfl ?_; (refine Zhg (Zcb rfl rfl) ?_))
          first|refine Zhg (Zdz rfl rfl) ?_|refine Zhg (Zd0 rfl rfl) ?_|refine Zhg (Za8 rfl rfl) ?_|refine Zhg (Za9 rfl rfl) ?_|refine Zhg (Za6 rfl rfl) ?_|refine Zhg (Za7 rfl rfl) ?_
          first|refine Zhg (Zau rfl) ?_|refine Zhg (Zar rfl) ?_
          first|refine Zhi rfl ?_|refine Zhj rfl ?_|(refine Zhh rfl ?_; (first|refine Zhg (Zav rfl) ?_|refine Zhg (Zar rfl) ?_))
          first|refine Zhi rfl ?_|refine Zhj rfl ?_|(refine Zhh rfl ?_; (first|refine Zhg (Zav rfl) ?_|refine Zhg (Zar rfl) ?_))
          first|refine Zhi rfl ?_|refine Zhj rfl ?_|(refine Zhh rfl ?_; (first|refine Zhg (Zl8 rfl) ?_|refine Zhg (Zce rfl) ?_))
          first|refine Zhi rfl ?_|refine Zhj rfl ?_|(refine Zhh rfl ?_; (refine Zhp rfl qH rfl ?_))
          first|refine Zhi rfl ?_|refine Zhj rfl ?_|(refine Zhh rfl ?_; (first|refine Zhg (Zat rfl) ?_|refine Zhg (Zar rfl) ?_))
          first|refine Zhi rfl ?_|refine Zhj rfl ?_|(refine Zhh rfl ?_; (first|refine Zhg (Zl6 rfl rfl) ?_|refine Zhg (Zcg rfl rfl) ?_))
          first|refine Zhi rfl ?_|refine Zhj rfl ?_|(refine Zhh rfl ?_; (first|refine Zhr rfl qH qZ ?_|refine Zhq rfl qH qZ rfl ?_))
          first|refine Zhi rfl ?_|refine Zhj rfl ?_
          first|refine Zhi rfl ?_|refine Zhj rfl ?_|(refine Zhh rfl ?_; (first|refine Zhg (Zb1 rfl) ?_|refine Zhg (Zb0 rfl) ?_))
          first|refine Zhg (Zdz rfl rfl) ?_|refine Zhg (Zd0 rfl rfl) ?_|refine Zhg (Za8 rfl rfl) ?_|refine Zhg (Za9 rfl rfl) ?_|refine Zhg (Za6 rfl rfl) ?_|refine Zhg (Za7 rfl rfl) ?_
          first|refine Zhg (Zau rfl) ?_|refine Zhg (Zar rfl) ?_
          first|refine Zhi rfl ?_|refine Zhj rfl ?_|(refine Zhh rfl ?_; (first|refine Zhg (Zat rfl) ?_|refine Zhg (Zar rfl) ?_))
          first|refine Zhi rfl ?_|refine Zhj rfl ?_|(refine Zhh rfl ?_; (first|refine Zhg (Zl8 rfl) ?_|refine Zhg (Zce rfl) ?_))
          first|refine Zhi rfl ?_|refine Zhj rfl ?_|(refine Zhh rfl ?_; (refine Zhp rfl qH rfl ?_))
          first|refine Zhi rfl ?_|refine Zhj rfl ?_|(refine Zhh rfl ?_; (first|refine Zhg (Zcr rfl) ?_|refine Zhg (Zct) ?_|refine Zhg (Zcu rfl) ?_))
          first|refine Zhi rfl ?_|refine Zhj rfl ?_|(refine Zhh rfl ?_; (first|refine Zhg (Zmf rfl rfl) ?_|refine Zhg (Zbn rfl rfl) ?_))
          refine Zhm 71 rfl (decide_eq_true (hn2)) ?_
          first|refine Zhi rfl ?_|refine Zhj rfl ?_|(refine Zhh rfl ?_; (first|refine Zhg (Zau rfl) ?_|refine Zhg (Zar rfl) ?_))
          first|refine Zhi rfl ?_|refine Zhj rfl ?_|(refine Zhh rfl ?_; (first|refine Zhg (Zav rfl) ?_|refine Zhg (Zar rfl) ?_))
          first|refine Zhi rfl ?_|refine Zhj rfl ?_|(refine Zhh rfl ?_; (refine Zhg (Zcb rfl rfl) ?_))
          refine Zhn 74 rfl (rfl) ?_
          first|refine Zhi rfl ?_|refine Zhj rfl ?_|(refine Zhh rfl ?_; (first|refine Zhg (Zdz rfl rfl) ?_|refine Zhg (Zd0 rfl rfl) ?_|refine Zhg (Za8 rfl rfl) ?_|refine Zhg (Za9 rfl rfl) ?_|refine Zhg (Za6 rfl rfl) ?_|refine Zhg (Za7 rfl rfl) ?_))
          first|refine Zhi rfl ?_|refine Zhj rfl ?_|(refine Zhh rfl ?_; (first|refine Zhg (Zau rfl) ?_|refine Zhg (Zar rfl) ?_))
          first|refine Zhi rfl ?_|refine Zhj rfl ?_|(refine Zhh rfl ?_; (first|refine Zhg (Zav rfl) ?_|refine Zhg (Zar rfl) ?_))
          first|refine Zhi rfl ?_|refine Zhj rfl ?_|(refine Zhh rfl ?_; (first|refine Zhg (Zav rfl) ?_|refine Zhg (Zar rfl) ?_))
          first|refine Zhi rfl ?_|refine Zhj rfl ?_|(refine Zhh rfl ?_; (first|refine Zhg (Zl8 rfl) ?_|refine Zhg (Zce rfl) ?_))
          first|refine Zhi rfl ?_|refine Zhj rfl ?_|(refine Zhh rfl ?_; (refine Zhp rfl qH rfl ?_))
          first|refine Zhi rfl ?_|refine Zhj rfl ?_|(refine Zhh rfl ?_; (first|refine Zhg (Zat rfl) ?_|refine Zhg (Zar rfl) ?_))
          first|refine Zhi rfl ?_|refine Zhj rfl ?_|(refine Zhh rfl ?_; (first|refine Zhg (Zl6 rfl rfl) ?_|refine Zhg (Zcg rfl rfl) ?_))
          first|refine Zhi rfl ?_|refine Zhj rfl ?_|(refine Zhh rfl ?_; (first|refine Zhr rfl qH qZ ?_|refine Zhq rfl qH qZ rfl ?_))
          first|refine Zhi rfl ?_|refine Zhj rfl ?_
          first|refine Zhi rfl ?_|refine Zhj rfl ?_|(refine Zhh rfl ?_; (first|refine Zhg (Zb1 rfl) ?_|refine Zhg (Zb0 rfl) ?_))
          first|refine Zhi rfl ?_|refine Zhj rfl ?_|(refine Zhh rfl ?_; (first|refine Zhg (Zdz rfl rfl) ?_|refine Zhg (Zd0 rfl rfl) ?_|refine Zhg (Za8 rfl rfl) ?_|refine Zhg (Za9 rfl rfl) ?_|refine Zhg (Za6 rfl rfl) ?_|refine Zhg (Za7 rfl rfl) ?_))
          first|refine Zhg (Zdz rfl rfl) ?_|refine Zhg (Zd0 rfl rfl) ?_|refine Zhg (Za8 rfl rfl) ?_|refine Zhg (Za9 rfl rfl) ?_|refine Zhg (Za6 rfl rfl) ?_|refine Zhg (Za7 rfl rfl) ?_
          refine Zg3 ?_
          refine Ct.o ?_
          refine Zgf rfl ?_
          refine Ct.o ?_
          refine Zgb ?_
          first|refine Zhg (Zat rfl) ?_|refine Zhg (Zar rfl) ?_
          first|refine Zhg (Zma (b := 1) rfl rfl) ?_|refine Zhg (Zbg rfl rfl) ?_
          first|refine Zhg (Zaz rfl) ?_|refine Zhg (Zas rfl) ?_
          refine Zg3 ?_
          refine Ct.o ?_
          exact Zgl (i + 1, s, z) qO ⟨by dsimp only; omega, (by dsimp only; omega), hl1, (by dsimp only; omega), hl2⟩ qI ⟨rfl, trivial⟩
        | true =>
          refine Zgt (fun F w H => (hs2.rd.imp (Imp.arr (M := _) qV)).someAt (by omega) H) ?_
          rintro ⟨t1a, t1b, rfl⟩
          refine Zgt (fun F w H => two_ok (ph := pg) (q := q2) (s := z) (fl := fl2) qH H) ?_
          intro hok2
          obtain ⟨hbd2, hbl2⟩ := hs2.el st2[i] (List.getElem_mem hn2)
          have hag2 := hs2.at hn2 rfl
          generalize st2[i] = x2 at hbd2 hbl2 hag2
          have htl2 := told_log (pS x2) hok2 hl2
          refine Ct.o ?_
          refine Zgb ?_
          first|refine Zhg (Zat rfl) ?_|refine Zhg (Zar rfl) ?_
          first|refine Zhg (Zl8 rfl) ?_|refine Zhg (Zce rfl) ?_
          refine Zhp rfl qH rfl ?_
          first|refine Zhg (Zcr rfl) ?_|refine Zhg (Zct) ?_|refine Zhg (Zcu rfl) ?_
          first|refine Zhg (Zmf rfl rfl) ?_|refine Zhg (Zbn rfl rfl) ?_
          refine Zhn 50 rfl (decide_eq_false (hn1)) ?_
          first|refine Zhg (Zau rfl) ?_|refine Zhg (Zar rfl) ?_
          first|refine Zhi rfl ?_|refine Zhj rfl ?_|(refine Zhh rfl ?_; (first|refine Zhg (Zav rfl) ?_|refine Zhg (Zar rfl) ?_))
          first|refine Zhi rfl ?_|refine Zhj rfl ?_|(refine Zhh rfl ?_; (refine Zhg (Zcb rfl rfl) ?_))
          first|refine Zhg (Zdz rfl rfl) ?_|refine Zhg (Zd0 rfl rfl) ?_|refine Zhg (Za8 rfl rfl) ?_|refine Zhg (Za9 rfl rfl) ?_|refine Zhg (Za6 rfl rfl) ?_|refine Zhg (Za7 rfl rfl) ?_
          first|refine Zhg (Zau rfl) ?_|refine Zhg (Zar rfl) ?_
          first|refine Zhi rfl ?_|refine Zhj rfl ?_|(refine Zhh rfl ?_; (first|refine Zhg (Zav rfl) ?_|refine Zhg (Zar rfl) ?_))
          first|refine Zhi rfl ?_|refine Zhj rfl ?_|(refine Zhh rfl ?_; (first|refine Zhg (Zav rfl) ?_|refine Zhg (Zar rfl) ?_))
          first|refine Zhi rfl ?_|refine Zhj rfl ?_|(refine Zhh rfl ?_; (first|refine Zhg (Zl8 rfl) ?_|refine Zhg (Zce rfl) ?_))
          first|refine Zhi rfl ?_|refine Zhj rfl ?_|(refine Zhh rfl ?_; (refine Zhp rfl qH rfl ?_))
          first|refine Zhi rfl ?_|refine Zhj rfl ?_|(refine Zhh rfl ?_; (first|refine Zhg (Zat rfl) ?_|refine Zhg (Zar rfl) ?_))
          first|refine Zhi rfl ?_|refine Zhj rfl ?_|(refine Zhh rfl ?_; (first|refine Zhg (Zl6 rfl rfl) ?_|refine Zhg (Zcg rfl rfl) ?_))
          first|refine Zhi rfl ?_|refine Zhj rfl ?_|(refine Zhh rfl ?_; (first|refine Zhr rfl qH qZ ?_|refine Zhq rfl qH qZ rfl ?_))
          first|refine Zhi rfl ?_|refine Zhj rfl ?_
          first|refine Zhi rfl ?_|refine Zhj rfl ?_|(refine Zhh rfl ?_; (first|refine Zhg (Zb1 rfl) ?_|refine Zhg (Zb0 rfl) ?_))
          first|refine Zhg (Zdz rfl rfl) ?_|refine Zhg (Zd0 rfl rfl) ?_|refine Zhg (Za8 rfl rfl) ?_|refine Zhg (Za9 rfl rfl) ?_|refine Zhg (Za6 rfl rfl) ?_|refine Zhg (Za7 rfl rfl) ?_
          first|refine Zhg (Zau rfl) ?_|refine Zhg (Zar rfl) ?_
          first|refine Zhi rfl ?_|refine Zhj rfl ?_|(refine Zhh rfl ?_; (first|refine Zhg (Zat rfl) ?_|refine Zhg (Zar rfl) ?_))
          first|refine Zhi rfl ?_|refine Zhj rfl ?_|(refine Zhh rfl ?_; (first|refine Zhg (Zl8 rfl) ?_|refine Zhg (Zce rfl) ?_))
          first|refine Zhi rfl ?_|refine Zhj rfl ?_|(refine Zhh rfl ?_; (refine Zhp rfl qH rfl ?_))
          first|refine Zhi rfl ?_|refine Zhj rfl ?_|(refine Zhh rfl ?_; (first|refine Zhg (Zcr rfl) ?_|refine Zhg (Zct) ?_|refine Zhg (Zcu rfl) ?_))
          first|refine Zhi rfl ?_|refine Zhj rfl ?_|(refine Zhh rfl ?_; (first|refine Zhg (Zmf rfl rfl) ?_|refine Zhg (Zbn rfl rfl) ?_))
          refine Zhm 71 rfl (decide_eq_true (hn2)) ?_
          first|refine Zhi rfl ?_|refine Zhj rfl ?_|(refine Zhh rfl ?_; (first|refine Zhg (Zau rfl) ?_|refine Zhg (Zar rfl) ?_))
          first|refine Zhi rfl ?_|refine Zhj rfl ?_|(refine Zhh rfl ?_; (first|refine Zhg (Zav rfl) ?_|refine Zhg (Zar rfl) ?_))
          first|refine Zhi rfl ?_|refine Zhj rfl ?_|(refine Zhh rfl ?_; (refine Zhg (Zcb rfl rfl) ?_))
          refine Zhm 74 rfl (rfl) ?_
          first|refine Zhi rfl ?_|refine Zhj rfl ?_|(refine Zhh rfl ?_; (first|refine Zhg (Zdz rfl rfl) ?_|refine Zhg (Zd0 rfl rfl) ?_|refine Zhg (Za8 rfl rfl) ?_|refine Zhg (Za9 rfl rfl) ?_|refine Zhg (Za6 rfl rfl) ?_|refine Zhg (Za7 rfl rfl) ?_))
          first|refine Zhi rfl ?_|refine Zhj rfl ?_|(refine Zhh rfl ?_; (first|refine Zhg (Zau rfl) ?_|refine Zhg (Zar rfl) ?_))
          first|refine Zhi rfl ?_|refine Zhj rfl ?_|(refine Zhh rfl ?_; (first|refine Zhg (Zav rfl) ?_|refine Zhg (Zar rfl) ?_))
          first|refine Zhi rfl ?_|refine Zhj rfl ?_|(refine Zhh rfl ?_; (first|refine Zhg (Zav rfl) ?_|refine Zhg (Zar rfl) ?_))
          first|refine Zhi rfl ?_|refine Zhj rfl ?_|(refine Zhh rfl ?_; (first|refine Zhg (Zl8 rfl) ?_|refine Zhg (Zce rfl) ?_))
          first|refine Zhi rfl ?_|refine Zhj rfl ?_|(refine Zhh rfl ?_; (refine Zhp rfl qH rfl ?_))
          first|refine Zhi rfl ?_|refine Zhj rfl ?_|(refine Zhh rfl ?_; (first|refine Zhg (Zat rfl) ?_|refine Zhg (Zar rfl) ?_))
          first|refine Zhi rfl ?_|refine Zhj rfl ?_|(refine Zhh rfl ?_; (first|refine Zhg (Zl6 rfl rfl) ?_|refine Zhg (Zcg rfl rfl) ?_))
          first|refine Zhi rfl ?_|refine Zhj rfl ?_|(refine Zhh rfl ?_; (refine Zfg rfl ((hag2.imp qI)) ?_))
          first|refine Zhi rfl ?_|refine Zhj rfl ?_|(refine Zhh rfl ?_; (refine Zh8 rfl (by kernel_rfl) (step_x (L := L) (pS x2) hbd2 hbl2 (by omega) hl2) rfl qT ?_); (rintro _ _ ⟨rfl, rfl⟩); (refine Zg2 qA ?_))
          first|refine Zhi rfl ?_|refine Zhj rfl ?_|(refine Zhh rfl ?_; (refine Zhg (Zb0 rfl) ?_))
          refine Zhn 85 rfl (rfl) ?_
          first|refine Zhi rfl ?_|refine Zhj rfl ?_|(refine Zhh rfl ?_; (first|refine Zhg (Zdz rfl rfl) ?_|refine Zhg (Zd0 rfl rfl) ?_|refine Zhg (Za8 rfl rfl) ?_|refine Zhg (Za9 rfl rfl) ?_|refine Zhg (Za6 rfl rfl) ?_|refine Zhg (Za7 rfl rfl) ?_))
          first|refine Zhg (Zdz rfl rfl) ?_|refine Zhg (Zd0 rfl rfl) ?_|refine Zhg (Za8 rfl rfl) ?_|refine Zhg (Za9 rfl rfl) ?_|refine Zhg (Za6 rfl rfl) ?_|refine Zhg (Za7 rfl rfl) ?_
          refine Zg3 ?_
          refine Ct.o ?_
          refine Zgf rfl ?_
          refine Ct.o ?_
          refine Zgb ?_
          first|refine Zhg (Zat rfl) ?_|refine Zhg (Zar rfl) ?_
          first|refine Zhg (Zma (b := 1) rfl rfl) ?_|refine Zhg (Zbg rfl rfl) ?_
          first|refine Zhg (Zaz rfl) ?_|refine Zhg (Zas rfl) ?_
          refine Zg3 ?_
          refine Ct.o ?_
          exact Zgl (i + 1, s, (HostS.toldR z (pS x2)).2) qO ⟨by dsimp only; omega, (by dsimp only; omega), hl1, (Nat.le_trans htl2.2 (by omega)), htl2.1⟩ qI ⟨rfl, trivial⟩
      · refine Ct.o ?_
        refine Zgb ?_
        first|refine Zhg (Zat rfl) ?_|refine Zhg (Zar rfl) ?_
        first|refine Zhg (Zl8 rfl) ?_|refine Zhg (Zce rfl) ?_
        refine Zhp rfl qH rfl ?_
        first|refine Zhg (Zcr rfl) ?_|refine Zhg (Zct) ?_|refine Zhg (Zcu rfl) ?_
        first|refine Zhg (Zmf rfl rfl) ?_|refine Zhg (Zbn rfl rfl) ?_
        refine Zhn 36 rfl (decide_eq_false (hn1)) ?_
        first|refine Zhg (Zau rfl) ?_|refine Zhg (Zar rfl) ?_
        first|refine Zhi rfl ?_|refine Zhj rfl ?_|(refine Zhh rfl ?_; (first|refine Zhg (Zat rfl) ?_|refine Zhg (Zar rfl) ?_))
        first|refine Zhi rfl ?_|refine Zhj rfl ?_|(refine Zhh rfl ?_; (first|refine Zhg (Zl8 rfl) ?_|refine Zhg (Zce rfl) ?_))
        first|refine Zhi rfl ?_|refine Zhj rfl ?_|(refine Zhh rfl ?_; (refine Zhp rfl qH rfl ?_))
        first|refine Zhi rfl ?_|refine Zhj rfl ?_|(refine Zhh rfl ?_; (first|refine Zhg (Zcr rfl) ?_|refine Zhg (Zct) ?_|refine Zhg (Zcu rfl) ?_))
        first|refine Zhi rfl ?_|refine Zhj rfl ?_|(refine Zhh rfl ?_; (first|refine Zhg (Zmf rfl rfl) ?_|refine Zhg (Zbn rfl rfl) ?_))
        refine Zhn 42 rfl (decide_eq_false (hn2)) ?_
        first|refine Zhg (Zdz rfl rfl) ?_|refine Zhg (Zd0 rfl rfl) ?_|refine Zhg (Za8 rfl rfl) ?_|refine Zhg (Za9 rfl rfl) ?_|refine Zhg (Za6 rfl rfl) ?_|refine Zhg (Za7 rfl rfl) ?_
        refine Zg3 ?_
        refine Ct.o ?_
        refine Zgf rfl ?_
        refine Ct.o ?_
        exact Zgk (s, z) ⟨by dsimp only; omega, hl1, by dsimp only; omega, hl2⟩ qI trivial
  rintro ⟨s, z⟩ u ⟨ho1, hl1, ho2, hl2⟩
  dsimp only at ho1 hl1 ho2 hl2 ⊢
  refine Ct.o ?_
  refine Zgb ?_
  refine Zhg (Zdm (cs := ((⟨6, 0, 0#64, .slice none 0 0, []⟩ : StepV).cells).toArray) rfl) ?_
  refine Zhg (Zdm (cs := ((⟨8, 0, 0#64, .slice none 0 0, []⟩ : StepV).cells).toArray) rfl) ?_
  refine Zhg (Zdm (cs := ((⟨7, 0, 0#64, .slice none 0 0, []⟩ : StepV).cells).toArray) rfl) ?_
  first|refine Zhg (Zl8 rfl) ?_|refine Zhg (Zce rfl) ?_
  refine Zhp rfl qH rfl ?_
  refine Zhg (Zbe rfl rfl) ?_; generalize IntKind.i64.wrap (pages - 1) = pl
  refine Zhg (Zdm (cs := ((⟨7, pl, 0#64, .slice none 0 0, []⟩ : StepV).cells).toArray) rfl) ?_
  refine Zh7 (cs := ((lastL pl).flatMap StepV.cells).toArray) (by omega) (by omega) (by kernel_rfl) ?_; intro b95
  first|refine Zhg (Za2 rfl) ?_|refine Zhg (Zas rfl) ?_
  refine Zg3 ?_
  refine Ct.o ?_
  refine Zgb ?_
  first|refine Zhg (Zaz rfl) ?_|refine Zhg (Zas rfl) ?_
  refine Zg3 ?_
  refine Ct.o ?_
  refine Zgo [(4, 4), (13, 13), (96, 127)] (by kernel_rfl) (fun s : Nat × HostS.HS × HostS.HS => s.1 ≤ 4 ∧ s.2.1.ops ≤ 2932031007402 + s.1 ∧ LogOk s.2.1 ∧ s.2.2.ops ≤ 2932031007402 + s.1 ∧ LogOk s.2.2) (fun s => twoA y1 ph q s.2.1 fl :: twoA y2 pg q2 s.2.2 fl2 :: cl b95 ((lastL pl).flatMap StepV.cells).toArray 39 :: L) (fun s => [(13, nvv s.1)]) (fun s => 4 - s.1) (0, s, z) ⟨Nat.zero_le _, ho1, hl1, ho2, hl2⟩ qI ⟨rfl, trivial⟩ ?_
  clear ho1 hl1 ho2 hl2
  rintro ⟨i, s, z⟩ u ⟨hi, ho1, hl1, ho2, hl2⟩
  dsimp only at hi ho1 hl1 ho2 hl2 ⊢
  refine Ct.o ?_
  refine Zgb ?_
  first|refine Zhg (Zat rfl) ?_|refine Zhg (Zar rfl) ?_
  first|refine Zhg (Zaw rfl) ?_|refine Zhg (Zar rfl) ?_
  first|refine Zhg (Zcr rfl) ?_|refine Zhg (Zct) ?_|refine Zhg (Zcu rfl) ?_
  first|refine Zhg (Zmf rfl rfl) ?_|refine Zhg (Zbn rfl rfl) ?_
  refine Zg3 ?_
  refine Ct.o ?_
  refine Zgg rfl (fun hB => ?_) (fun hB => ?_)
  · cases y1 with
    | false =>
      cases y2 with
      | false =>
        refine Ct.o ?_
        refine Zgb ?_
        first|refine Zhg (Zav rfl) ?_|refine Zhg (Zar rfl) ?_
        refine Zhg (Zcb rfl rfl) ?_
        refine Zhn 103 rfl (rfl) ?_
        first|refine Zhg (Zau rfl) ?_|refine Zhg (Zar rfl) ?_
        first|refine Zhi rfl ?_|refine Zhj rfl ?_|(refine Zhh rfl ?_; (first|refine Zhg (Zav rfl) ?_|refine Zhg (Zar rfl) ?_))
        first|refine Zhi rfl ?_|refine Zhj rfl ?_|(refine Zhh rfl ?_; (first|refine Zhg (Zav rfl) ?_|refine Zhg (Zar rfl) ?_))
        first|refine Zhi rfl ?_|refine Zhj rfl ?_|(refine Zhh rfl ?_; (first|refine Zhg (Zaw rfl) ?_|refine Zhg (Zar rfl) ?_))
        first|refine Zhi rfl ?_|refine Zhj rfl ?_|(refine Zhh rfl ?_; (first|refine Zhg (Zat rfl) ?_|refine Zhg (Zar rfl) ?_))
        first|refine Zhi rfl ?_|refine Zhj rfl ?_|(refine Zhh rfl ?_; (first|refine Zhg (Zl6 rfl rfl) ?_|refine Zhg (Zcg rfl rfl) ?_))
        first|refine Zhi rfl ?_|refine Zhj rfl ?_|(refine Zhh rfl ?_; (first|refine Zhr rfl qH qZ ?_|refine Zhq rfl qH qZ rfl ?_))
        first|refine Zhi rfl ?_|refine Zhj rfl ?_
        first|refine Zhi rfl ?_|refine Zhj rfl ?_|(refine Zhh rfl ?_; (first|refine Zhg (Zb1 rfl) ?_|refine Zhg (Zb0 rfl) ?_))
        first|refine Zhg (Zdz rfl rfl) ?_|refine Zhg (Zd0 rfl rfl) ?_|refine Zhg (Za8 rfl rfl) ?_|refine Zhg (Za9 rfl rfl) ?_|refine Zhg (Za6 rfl rfl) ?_|refine Zhg (Za7 rfl rfl) ?_
        first|refine Zhg (Zau rfl) ?_|refine Zhg (Zar rfl) ?_
        first|refine Zhi rfl ?_|refine Zhj rfl ?_|(refine Zhh rfl ?_; (first|refine Zhg (Zav rfl) ?_|refine Zhg (Zar rfl) ?_))
        first|refine Zhi rfl ?_|refine Zhj rfl ?_|(refine Zhh rfl ?_; (refine Zhg (Zcb rfl rfl) ?_))
        refine Zhn 116 rfl (rfl) ?_
        first|refine Zhi rfl ?_|refine Zhj rfl ?_|(refine Zhh rfl ?_; (first|refine Zhg (Zau rfl) ?_|refine Zhg (Zar rfl) ?_))
        first|refine Zhi rfl ?_|refine Zhj rfl ?_|(refine Zhh rfl ?_; (first|refine Zhg (Zav rfl) ?_|refine Zhg (Zar rfl) ?_))
        first|refine Zhi rfl ?_|refine Zhj rfl ?_|(refine Zhh rfl ?_; (first|refine Zhg (Zav rfl) ?_|refine Zhg (Zar rfl) ?_))
        first|refine Zhi rfl ?_|refine Zhj rfl ?_|(refine Zhh rfl ?_; (first|refine Zhg (Zaw rfl) ?_|refine Zhg (Zar rfl) ?_))
        first|refine Zhi rfl ?_|refine Zhj rfl ?_|(refine Zhh rfl ?_; (first|refine Zhg (Zat rfl) ?_|refine Zhg (Zar rfl) ?_))
        first|refine Zhi rfl ?_|refine Zhj rfl ?_|(refine Zhh rfl ?_; (first|refine Zhg (Zl6 rfl rfl) ?_|refine Zhg (Zcg rfl rfl) ?_))
        first|refine Zhi rfl ?_|refine Zhj rfl ?_|(refine Zhh rfl ?_; (first|refine Zhr rfl qH qZ ?_|refine Zhq rfl qH qZ rfl ?_))
        first|refine Zhi rfl ?_|refine Zhj rfl ?_
        first|refine Zhi rfl ?_|refine Zhj rfl ?_|(refine Zhh rfl ?_; (first|refine Zhg (Zb1 rfl) ?_|refine Zhg (Zb0 rfl) ?_))
        first|refine Zhi rfl ?_|refine Zhj rfl ?_|(refine Zhh rfl ?_; (first|refine Zhg (Zdz rfl rfl) ?_|refine Zhg (Zd0 rfl rfl) ?_|refine Zhg (Za8 rfl rfl) ?_|refine Zhg (Za9 rfl rfl) ?_|refine Zhg (Za6 rfl rfl) ?_|refine Zhg (Za7 rfl rfl) ?_))
        first|refine Zhg (Zdz rfl rfl) ?_|refine Zhg (Zd0 rfl rfl) ?_|refine Zhg (Za8 rfl rfl) ?_|refine Zhg (Za9 rfl rfl) ?_|refine Zhg (Za6 rfl rfl) ?_|refine Zhg (Za7 rfl rfl) ?_
        refine Zg3 ?_
        refine Ct.o ?_
        refine Zgf rfl ?_
        refine Ct.o ?_
        refine Zgb ?_
        first|refine Zhg (Zat rfl) ?_|refine Zhg (Zar rfl) ?_
        first|refine Zhg (Zma (b := 1) rfl rfl) ?_|refine Zhg (Zbg rfl rfl) ?_
        first|refine Zhg (Zaz rfl) ?_|refine Zhg (Zas rfl) ?_
        refine Zg3 ?_
        refine Ct.o ?_
        exact Zgl (i + 1, s, z) qO ⟨by dsimp only; omega, (by dsimp only; omega), hl1, (by dsimp only; omega), hl2⟩ qI ⟨rfl, trivial⟩
      | true =>
        have hst : StepsIn [cl b95 ((lastL pl).flatMap StepV.cells).toArray 39] (.slice (some ⟨b95, 0, none⟩) 4 4) (lastL pl) := lastIn .here
        obtain ⟨hbd1, hbl1⟩ := hst.el (lastL pl)[i] (List.getElem_mem hB)
        have hag1 := hst.at (i := i) hB rfl
        rw [Nat.zero_add] at hag1
        generalize (lastL pl)[i] = x1 at hbd1 hbl1 hag1
        refine Zgt (fun F w H => two_ok (ph := pg) (q := q2) (s := z) (fl := fl2) qH H) ?_
        intro hok2
        have htl2 := told_log (pS x1) hok2 hl2
        refine Ct.o ?_
        refine Zgb ?_
        first|refine Zhg (Zav rfl) ?_|refine Zhg (Zar rfl) ?_
        refine Zhg (Zcb rfl rfl) ?_
        refine Zhn 103 rfl (rfl) ?_
        first|refine Zhg (Zau rfl) ?_|refine Zhg (Zar rfl) ?_
        first|refine Zhi rfl ?_|refine Zhj rfl ?_|(refine Zhh rfl ?_; (first|refine Zhg (Zav rfl) ?_|refine Zhg (Zar rfl) ?_))
        first|refine Zhi rfl ?_|refine Zhj rfl ?_|(refine Zhh rfl ?_; (first|refine Zhg (Zav rfl) ?_|refine Zhg (Zar rfl) ?_))
        first|refine Zhi rfl ?_|refine Zhj rfl ?_|(refine Zhh rfl ?_; (first|refine Zhg (Zaw rfl) ?_|refine Zhg (Zar rfl) ?_))
        first|refine Zhi rfl ?_|refine Zhj rfl ?_|(refine Zhh rfl ?_; (first|refine Zhg (Zat rfl) ?_|refine Zhg (Zar rfl) ?_))
        first|refine Zhi rfl ?_|refine Zhj rfl ?_|(refine Zhh rfl ?_; (first|refine Zhg (Zl6 rfl rfl) ?_|refine Zhg (Zcg rfl rfl) ?_))
        first|refine Zhi rfl ?_|refine Zhj rfl ?_|(refine Zhh rfl ?_; (first|refine Zhr rfl qH qZ ?_|refine Zhq rfl qH qZ rfl ?_))
        first|refine Zhi rfl ?_|refine Zhj rfl ?_
        first|refine Zhi rfl ?_|refine Zhj rfl ?_|(refine Zhh rfl ?_; (first|refine Zhg (Zb1 rfl) ?_|refine Zhg (Zb0 rfl) ?_))
        first|refine Zhg (Zdz rfl rfl) ?_|refine Zhg (Zd0 rfl rfl) ?_|refine Zhg (Za8 rfl rfl) ?_|refine Zhg (Za9 rfl rfl) ?_|refine Zhg (Za6 rfl rfl) ?_|refine Zhg (Za7 rfl rfl) ?_
        first|refine Zhg (Zau rfl) ?_|refine Zhg (Zar rfl) ?_
        first|refine Zhi rfl ?_|refine Zhj rfl ?_|(refine Zhh rfl ?_; (first|refine Zhg (Zav rfl) ?_|refine Zhg (Zar rfl) ?_))
        first|refine Zhi rfl ?_|refine Zhj rfl ?_|(refine Zhh rfl ?_; (refine Zhg (Zcb rfl rfl) ?_))
        refine Zhm 116 rfl (rfl) ?_
        first|refine Zhi rfl ?_|refine Zhj rfl ?_|(refine Zhh rfl ?_; (first|refine Zhg (Zau rfl) ?_|refine Zhg (Zar rfl) ?_))
        first|refine Zhi rfl ?_|refine Zhj rfl ?_|(refine Zhh rfl ?_; (first|refine Zhg (Zav rfl) ?_|refine Zhg (Zar rfl) ?_))
        first|refine Zhi rfl ?_|refine Zhj rfl ?_|(refine Zhh rfl ?_; (first|refine Zhg (Zav rfl) ?_|refine Zhg (Zar rfl) ?_))
        first|refine Zhi rfl ?_|refine Zhj rfl ?_|(refine Zhh rfl ?_; (first|refine Zhg (Zaw rfl) ?_|refine Zhg (Zar rfl) ?_))
        first|refine Zhi rfl ?_|refine Zhj rfl ?_|(refine Zhh rfl ?_; (first|refine Zhg (Zat rfl) ?_|refine Zhg (Zar rfl) ?_))
        first|refine Zhi rfl ?_|refine Zhj rfl ?_|(refine Zhh rfl ?_; (first|refine Zhg (Zl6 rfl rfl) ?_|refine Zhg (Zcg rfl rfl) ?_))
        first|refine Zhi rfl ?_|refine Zhj rfl ?_|(refine Zhh rfl ?_; (refine Zfg rfl ((hag1.imp qI)) ?_))
        first|refine Zhi rfl ?_|refine Zhj rfl ?_|(refine Zhh rfl ?_; (refine Zh8 rfl (by kernel_rfl) (step_x (L := [cl b95 ((lastL pl).flatMap StepV.cells).toArray 39]) (pS x1) hbd1 hbl1 (by omega) hl2) rfl qT ?_); (rintro _ _ ⟨rfl, rfl⟩); (refine Zg2 qA ?_))
        first|refine Zhi rfl ?_|refine Zhj rfl ?_|(refine Zhh rfl ?_; (refine Zhg (Zb0 rfl) ?_))
        refine Zhn 125 rfl (rfl) ?_
        first|refine Zhi rfl ?_|refine Zhj rfl ?_|(refine Zhh rfl ?_; (first|refine Zhg (Zdz rfl rfl) ?_|refine Zhg (Zd0 rfl rfl) ?_|refine Zhg (Za8 rfl rfl) ?_|refine Zhg (Za9 rfl rfl) ?_|refine Zhg (Za6 rfl rfl) ?_|refine Zhg (Za7 rfl rfl) ?_))
        first|refine Zhg (Zdz rfl rfl) ?_|refine Zhg (Zd0 rfl rfl) ?_|refine Zhg (Za8 rfl rfl) ?_|refine Zhg (Za9 rfl rfl) ?_|refine Zhg (Za6 rfl rfl) ?_|refine Zhg (Za7 rfl rfl) ?_
        refine Zg3 ?_
        refine Ct.o ?_
        refine Zgf rfl ?_
        refine Ct.o ?_
        refine Zgb ?_
        first|refine Zhg (Zat rfl) ?_|refine Zhg (Zar rfl) ?_
        first|refine Zhg (Zma (b := 1) rfl rfl) ?_|refine Zhg (Zbg rfl rfl) ?_
        first|refine Zhg (Zaz rfl) ?_|refine Zhg (Zas rfl) ?_
        refine Zg3 ?_
        refine Ct.o ?_
        exact Zgl (i + 1, s, (HostS.toldR z (pS x1)).2) qO ⟨by dsimp only; omega, (by dsimp only; omega), hl1, (Nat.le_trans htl2.2 (by dsimp only; omega)), htl2.1⟩ qI ⟨rfl, trivial⟩
    | true =>
      cases y2 with
      | false =>
        have hst : StepsIn [cl b95 ((lastL pl).flatMap StepV.cells).toArray 39] (.slice (some ⟨b95, 0, none⟩) 4 4) (lastL pl) := lastIn .here
        obtain ⟨hbd1, hbl1⟩ := hst.el (lastL pl)[i] (List.getElem_mem hB)
        have hag1 := hst.at (i := i) hB rfl
        rw [Nat.zero_add] at hag1
        generalize (lastL pl)[i] = x1 at hbd1 hbl1 hag1
        refine Zgt (fun F w H => two_ok (ph := ph) (q := q) (s := s) (fl := fl) qH H) ?_
        intro hok1
        have htl1 := told_log (pS x1) hok1 hl1
        refine Ct.o ?_
        refine Zgb ?_
        first|refine Zhg (Zav rfl) ?_|refine Zhg (Zar rfl) ?_
        refine Zhg (Zcb rfl rfl) ?_
        refine Zhm 103 rfl (rfl) ?_
        first|refine Zhg (Zau rfl) ?_|refine Zhg (Zar rfl) ?_
        first|refine Zhi rfl ?_|refine Zhj rfl ?_|(refine Zhh rfl ?_; (first|refine Zhg (Zav rfl) ?_|refine Zhg (Zar rfl) ?_))
        first|refine Zhi rfl ?_|refine Zhj rfl ?_|(refine Zhh rfl ?_; (first|refine Zhg (Zav rfl) ?_|refine Zhg (Zar rfl) ?_))
        first|refine Zhi rfl ?_|refine Zhj rfl ?_|(refine Zhh rfl ?_; (first|refine Zhg (Zaw rfl) ?_|refine Zhg (Zar rfl) ?_))
        first|refine Zhi rfl ?_|refine Zhj rfl ?_|(refine Zhh rfl ?_; (first|refine Zhg (Zat rfl) ?_|refine Zhg (Zar rfl) ?_))
        first|refine Zhi rfl ?_|refine Zhj rfl ?_|(refine Zhh rfl ?_; (first|refine Zhg (Zl6 rfl rfl) ?_|refine Zhg (Zcg rfl rfl) ?_))
        first|refine Zhi rfl ?_|refine Zhj rfl ?_|(refine Zhh rfl ?_; (refine Zfg rfl ((hag1.imp qI)) ?_))
        first|refine Zhi rfl ?_|refine Zhj rfl ?_|(refine Zhh rfl ?_; (refine Zh8 rfl (by kernel_rfl) (step_x (L := [cl b95 ((lastL pl).flatMap StepV.cells).toArray 39]) (pS x1) hbd1 hbl1 (by omega) hl1) rfl qT ?_); (rintro _ _ ⟨rfl, rfl⟩); (refine Zg2 qA ?_))
        first|refine Zhi rfl ?_|refine Zhj rfl ?_|(refine Zhh rfl ?_; (refine Zhg (Zb0 rfl) ?_))
        refine Zhn 112 rfl (rfl) ?_
        first|refine Zhg (Zdz rfl rfl) ?_|refine Zhg (Zd0 rfl rfl) ?_|refine Zhg (Za8 rfl rfl) ?_|refine Zhg (Za9 rfl rfl) ?_|refine Zhg (Za6 rfl rfl) ?_|refine Zhg (Za7 rfl rfl) ?_
        first|refine Zhg (Zau rfl) ?_|refine Zhg (Zar rfl) ?_
        first|refine Zhi rfl ?_|refine Zhj rfl ?_|(refine Zhh rfl ?_; (first|refine Zhg (Zav rfl) ?_|refine Zhg (Zar rfl) ?_))
        first|refine Zhi rfl ?_|refine Zhj rfl ?_|(refine Zhh rfl ?_; (refine Zhg (Zcb rfl rfl) ?_))
        refine Zhn 116 rfl (rfl) ?_
        first|refine Zhi rfl ?_|refine Zhj rfl ?_|(refine Zhh rfl ?_; (first|refine Zhg (Zau rfl) ?_|refine Zhg (Zar rfl) ?_))
        first|refine Zhi rfl ?_|refine Zhj rfl ?_|(refine Zhh rfl ?_; (first|refine Zhg (Zav rfl) ?_|refine Zhg (Zar rfl) ?_))
        first|refine Zhi rfl ?_|refine Zhj rfl ?_|(refine Zhh rfl ?_; (first|refine Zhg (Zav rfl) ?_|refine Zhg (Zar rfl) ?_))
        first|refine Zhi rfl ?_|refine Zhj rfl ?_|(refine Zhh rfl ?_; (first|refine Zhg (Zaw rfl) ?_|refine Zhg (Zar rfl) ?_))
        first|refine Zhi rfl ?_|refine Zhj rfl ?_|(refine Zhh rfl ?_; (first|refine Zhg (Zat rfl) ?_|refine Zhg (Zar rfl) ?_))
        first|refine Zhi rfl ?_|refine Zhj rfl ?_|(refine Zhh rfl ?_; (first|refine Zhg (Zl6 rfl rfl) ?_|refine Zhg (Zcg rfl rfl) ?_))
        first|refine Zhi rfl ?_|refine Zhj rfl ?_|(refine Zhh rfl ?_; (first|refine Zhr rfl qH qZ ?_|refine Zhq rfl qH qZ rfl ?_))
        first|refine Zhi rfl ?_|refine Zhj rfl ?_
        first|refine Zhi rfl ?_|refine Zhj rfl ?_|(refine Zhh rfl ?_; (first|refine Zhg (Zb1 rfl) ?_|refine Zhg (Zb0 rfl) ?_))
        first|refine Zhi rfl ?_|refine Zhj rfl ?_|(refine Zhh rfl ?_; (first|refine Zhg (Zdz rfl rfl) ?_|refine Zhg (Zd0 rfl rfl) ?_|refine Zhg (Za8 rfl rfl) ?_|refine Zhg (Za9 rfl rfl) ?_|refine Zhg (Za6 rfl rfl) ?_|refine Zhg (Za7 rfl rfl) ?_))
        first|refine Zhg (Zdz rfl rfl) ?_|refine Zhg (Zd0 rfl rfl) ?_|refine Zhg (Za8 rfl rfl) ?_|refine Zhg (Za9 rfl rfl) ?_|refine Zhg (Za6 rfl rfl) ?_|refine Zhg (Za7 rfl rfl) ?_
        refine Zg3 ?_
        refine Ct.o ?_
        refine Zgf rfl ?_
        refine Ct.o ?_
        refine Zgb ?_
        first|refine Zhg (Zat rfl) ?_|refine Zhg (Zar rfl) ?_
        first|refine Zhg (Zma (b := 1) rfl rfl) ?_|refine Zhg (Zbg rfl rfl) ?_
        first|refine Zhg (Zaz rfl) ?_|refine Zhg (Zas rfl) ?_
        refine Zg3 ?_
        refine Ct.o ?_
        exact Zgl (i + 1, (HostS.toldR s (pS x1)).2, z) qO ⟨by dsimp only; omega, (Nat.le_trans htl1.2 (by dsimp only; omega)), htl1.1, (by dsimp only; omega), hl2⟩ qI ⟨rfl, trivial⟩
      | true =>
        have hst : StepsIn [cl b95 ((lastL pl).flatMap StepV.cells).toArray 39] (.slice (some ⟨b95, 0, none⟩) 4 4) (lastL pl) := lastIn .here
        obtain ⟨hbd1, hbl1⟩ := hst.el (lastL pl)[i] (List.getElem_mem hB)
        have hag1 := hst.at (i := i) hB rfl
        rw [Nat.zero_add] at hag1
        generalize (lastL pl)[i] = x1 at hbd1 hbl1 hag1
        refine Zgt (fun F w H => two_ok (ph := ph) (q := q) (s := s) (fl := fl) qH H) ?_
        intro hok1
        have htl1 := told_log (pS x1) hok1 hl1
        refine Zgt (fun F w H => two_ok (ph := pg) (q := q2) (s := z) (fl := fl2) qH H) ?_
        intro hok2
        have htl2 := told_log (pS x1) hok2 hl2
        refine Ct.o ?_
        refine Zgb ?_
        first|refine Zhg (Zav rfl) ?_|refine Zhg (Zar rfl) ?_
        refine Zhg (Zcb rfl rfl) ?_
        refine Zhm 103 rfl (rfl) ?_
        first|refine Zhg (Zau rfl) ?_|refine Zhg (Zar rfl) ?_
        first|refine Zhi rfl ?_|refine Zhj rfl ?_|(refine Zhh rfl ?_; (first|refine Zhg (Zav rfl) ?_|refine Zhg (Zar rfl) ?_))
        first|refine Zhi rfl ?_|refine Zhj rfl ?_|(refine Zhh rfl ?_; (first|refine Zhg (Zav rfl) ?_|refine Zhg (Zar rfl) ?_))
        first|refine Zhi rfl ?_|refine Zhj rfl ?_|(refine Zhh rfl ?_; (first|refine Zhg (Zaw rfl) ?_|refine Zhg (Zar rfl) ?_))
        first|refine Zhi rfl ?_|refine Zhj rfl ?_|(refine Zhh rfl ?_; (first|refine Zhg (Zat rfl) ?_|refine Zhg (Zar rfl) ?_))
        first|refine Zhi rfl ?_|refine Zhj rfl ?_|(refine Zhh rfl ?_; (first|refine Zhg (Zl6 rfl rfl) ?_|refine Zhg (Zcg rfl rfl) ?_))
        first|refine Zhi rfl ?_|refine Zhj rfl ?_|(refine Zhh rfl ?_; (refine Zfg rfl ((hag1.imp qI)) ?_))
        first|refine Zhi rfl ?_|refine Zhj rfl ?_|(refine Zhh rfl ?_; (refine Zh8 rfl (by kernel_rfl) (step_x (L := [cl b95 ((lastL pl).flatMap StepV.cells).toArray 39]) (pS x1) hbd1 hbl1 (by omega) hl1) rfl qT ?_); (rintro _ _ ⟨rfl, rfl⟩); (refine Zg2 qA ?_))
        first|refine Zhi rfl ?_|refine Zhj rfl ?_|(refine Zhh rfl ?_; (refine Zhg (Zb0 rfl) ?_))
        refine Zhn 112 rfl (rfl) ?_
        first|refine Zhg (Zdz rfl rfl) ?_|refine Zhg (Zd0 rfl rfl) ?_|refine Zhg (Za8 rfl rfl) ?_|refine Zhg (Za9 rfl rfl) ?_|refine Zhg (Za6 rfl rfl) ?_|refine Zhg (Za7 rfl rfl) ?_
        first|refine Zhg (Zau rfl) ?_|refine Zhg (Zar rfl) ?_
        first|refine Zhi rfl ?_|refine Zhj rfl ?_|(refine Zhh rfl ?_; (first|refine Zhg (Zav rfl) ?_|refine Zhg (Zar rfl) ?_))
        first|refine Zhi rfl ?_|refine Zhj rfl ?_|(refine Zhh rfl ?_; (refine Zhg (Zcb rfl rfl) ?_))
        refine Zhm 116 rfl (rfl) ?_
        first|refine Zhi rfl ?_|refine Zhj rfl ?_|(refine Zhh rfl ?_; (first|refine Zhg (Zau rfl) ?_|refine Zhg (Zar rfl) ?_))
        first|refine Zhi rfl ?_|refine Zhj rfl ?_|(refine Zhh rfl ?_; (first|refine Zhg (Zav rfl) ?_|refine Zhg (Zar rfl) ?_))
        first|refine Zhi rfl ?_|refine Zhj rfl ?_|(refine Zhh rfl ?_; (first|refine Zhg (Zav rfl) ?_|refine Zhg (Zar rfl) ?_))
        first|refine Zhi rfl ?_|refine Zhj rfl ?_|(refine Zhh rfl ?_; (first|refine Zhg (Zaw rfl) ?_|refine Zhg (Zar rfl) ?_))
        first|refine Zhi rfl ?_|refine Zhj rfl ?_|(refine Zhh rfl ?_; (first|refine Zhg (Zat rfl) ?_|refine Zhg (Zar rfl) ?_))
        first|refine Zhi rfl ?_|refine Zhj rfl ?_|(refine Zhh rfl ?_; (first|refine Zhg (Zl6 rfl rfl) ?_|refine Zhg (Zcg rfl rfl) ?_))
        first|refine Zhi rfl ?_|refine Zhj rfl ?_|(refine Zhh rfl ?_; (refine Zfg rfl ((hag1.imp qI)) ?_))
        first|refine Zhi rfl ?_|refine Zhj rfl ?_|(refine Zhh rfl ?_; (refine Zh8 rfl (by kernel_rfl) (step_x (L := [cl b95 ((lastL pl).flatMap StepV.cells).toArray 39]) (pS x1) hbd1 hbl1 (by omega) hl2) rfl qT ?_); (rintro _ _ ⟨rfl, rfl⟩); (refine Zg2 qA ?_))
        first|refine Zhi rfl ?_|refine Zhj rfl ?_|(refine Zhh rfl ?_; (refine Zhg (Zb0 rfl) ?_))
        refine Zhn 125 rfl (rfl) ?_
        first|refine Zhi rfl ?_|refine Zhj rfl ?_|(refine Zhh rfl ?_; (first|refine Zhg (Zdz rfl rfl) ?_|refine Zhg (Zd0 rfl rfl) ?_|refine Zhg (Za8 rfl rfl) ?_|refine Zhg (Za9 rfl rfl) ?_|refine Zhg (Za6 rfl rfl) ?_|refine Zhg (Za7 rfl rfl) ?_))
        first|refine Zhg (Zdz rfl rfl) ?_|refine Zhg (Zd0 rfl rfl) ?_|refine Zhg (Za8 rfl rfl) ?_|refine Zhg (Za9 rfl rfl) ?_|refine Zhg (Za6 rfl rfl) ?_|refine Zhg (Za7 rfl rfl) ?_
        refine Zg3 ?_
        refine Ct.o ?_
        refine Zgf rfl ?_
        refine Ct.o ?_
        refine Zgb ?_
        first|refine Zhg (Zat rfl) ?_|refine Zhg (Zar rfl) ?_
        first|refine Zhg (Zma (b := 1) rfl rfl) ?_|refine Zhg (Zbg rfl rfl) ?_
        first|refine Zhg (Zaz rfl) ?_|refine Zhg (Zas rfl) ?_
        refine Zg3 ?_
        refine Ct.o ?_
        exact Zgl (i + 1, (HostS.toldR s (pS x1)).2, (HostS.toldR z (pS x1)).2) qO ⟨by dsimp only; omega, (Nat.le_trans htl1.2 (by dsimp only; omega)), htl1.1, (Nat.le_trans htl2.2 (by dsimp only; omega)), htl2.1⟩ qI ⟨rfl, trivial⟩
  · refine Ct.o ?_
    refine Zgb ?_
    first|refine Zhg (Za0 rfl) ?_|refine Zhg (Zas rfl) ?_
    refine Zg3 ?_
    refine Ct.o ?_
    refine rx1 (Zha rfl (Zg7)) ?_
    exact ⟨_, ⟨rfl, rfl⟩, qI⟩
theorem fault_big {W : World} {x : FaultV} (h : FaultVOk W x) : FBig (pF x) := ⟨h.at_, h.kind_, h.page_, h.byte_, h.back_⟩
theorem faults_big {W : World} {v : Value} {l : List FaultV} (h : InFaultV W v l) : ∀ f ∈ l.map pF, FBig f := by
  intro f hf
  obtain ⟨x, hx, rfl⟩ := List.mem_map.1 hf
  exact fault_big (h.el x hx)
theorem plays_w (W : World) (x : LifeV) (ok : LifeVOk W x) (y : LifeV) (oky : LifeVOk W y) : Con Try.prog 6 [.agg x.cells.toArray, .agg y.cells.toArray] [old W] (fun r M => r = .bool true ∧ [old W] = M) := by
  rw [life_lfc, life_lfc]; exact plays_g (faultsIn ok.faults_) (stepsIn ok.script_) (faultsIn oky.faults_) (stepsIn oky.script_) (faults_big ok.faults_) (faults_big oky.faults_)
end Go.Sl
