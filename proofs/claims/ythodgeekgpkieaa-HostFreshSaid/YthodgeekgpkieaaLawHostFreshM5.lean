/- Parts of the proof, joined: HfW. -/
import Derived.Test.YthodgeekgpkieaaLawHostFreshM0
import Derived.Test.YthodgeekgpkieaaLawHostFreshM1
import Derived.Test.YthodgeekgpkieaaLawHostFreshM2
import Derived.Test.YthodgeekgpkieaaLawHostFreshM3
import Derived.Test.YthodgeekgpkieaaLawHostFreshM4
/- trystlaw11: HostFresh, walked. -/
set_option maxHeartbeats 4000000
set_option maxRecDepth 10000
set_option linter.unusedVariables false
set_option linter.unusedSimpArgs false
namespace Go.Sl
open Go Go.Proofs
attribute [local irreducible] cl pt own old pur ex all den denOps denS xOps xC cX CX xthen xblk xcut xloop xgo xng retX resX Calls PV Rd Con
open HostS in
/-- No fault is to come, and the power is there. -/
structure NoF (s : HS) : Prop where
  coming : ∀ k, s.coming k = []
  up : s.down = false
section
open HostS
theorem nof_does {s : HS} (h : NoF s) (op page : Int) (b : Bytes) (act : HS → HS) : does s op page b act = (act (logged s op page b), 0) := by
  unfold does
  rw [h.up, h.coming]
  rfl
theorem nof_logged {s : HS} (h : NoF s) (op page : Int) (b : Bytes) : NoF (logged s op page b) := by
  refine ⟨fun k => ?_, h.up⟩
  show setF s.coming s.ops [] k = []
  unfold setF
  split
  · rfl
  · exact h.coming k
theorem nof_read {s : HS} (h : NoF s) (page : Int) : ∃ e s', readR s page = (liesR s page, e, s') ∧ NoF s' ∧ (∀ p, liesR s' p = liesR s p) ∧ s'.ops ≤ s.ops + 1 ∧ (Ok s → LogOk s → LogOk s') := by
  unfold readR
  by_cases ht : there s page
  · rw [if_pos ht, nof_does h, h.coming]
    dsimp only
    rw [if_pos rfl]
    refine ⟨0, logged s 0 page [], ?_, nof_logged h 0 page [], fun p => rfl, Nat.le_refl _, fun ho hl => logok_logged 0 page [] ho hl (fun _ => ht) (by omega)⟩
    unfold liesR spoilt
    rw [if_pos ht]
    rfl
  · rw [if_neg ht]
    refine ⟨2, s, ?_, h, fun _ => rfl, by omega, fun _ hl => hl⟩
    unfold liesR
    rw [if_neg ht]
theorem nof_told {s : HS} (h : NoF s) (t : Step) : NoF (toldR s t).2 := by
  unfold toldR
  split
  · obtain ⟨e, s', hr, hn, _⟩ := nof_read h t.page
    show NoF (readR s t.page).2.2
    rw [hr]; exact hn
  · split
    · show NoF (writeR s t.page t.data).2
      unfold writeR
      split
      · split
        · rw [nof_does h]
          have h2 := nof_logged h 1 t.page t.data
          exact ⟨h2.coming, h2.up⟩
        · exact h
      · exact h
    · split
      · show NoF (askR s).2.2
        unfold askR
        rw [nof_does h]
        exact nof_logged h 2 0 []
      · split
        · show NoF (raiseR s t.v).2
          unfold raiseR
          rw [nof_does h]
          have h2 := nof_logged h 3 0 []
          exact ⟨h2.coming, h2.up⟩
        · split
          · exact ⟨h.coming, rfl⟩
          · split
            · exact h
            · exact h
end
attribute [local irreducible] hostA HostS.toldR HostS.readR HostS.liesR
theorem nof_fresh (pages : Int) (size : Nat) : NoF (HostS.fresh pages size []) := ⟨fun _ => rfl, rfl⟩
theorem tk_ok (n : Int) (h : -9223372036854775808 ≤ n ∧ n ≤ 9223372036854775807) : TOk ⟨n, 0, 0, List.replicate 12 0#8⟩ := ⟨h, ⟨by show (-9223372036854775808 : Int) ≤ 0; omega, by show (0 : Int) ≤ 9223372036854775807; omega⟩, ⟨by show (-9223372036854775808 : Int) ≤ 0; omega, by show (0 : Int) ≤ 9223372036854775807; omega⟩, by simp⟩
def T7 : OTouch := ⟨⟨7, 0, 0, List.replicate 12 0#8⟩, tk_ok 7 (by omega)⟩
def T8 : OTouch := ⟨⟨8, 0, 0, List.replicate 12 0#8⟩, tk_ok 8 (by omega)⟩
def T9 : OTouch := ⟨⟨9, 0, 0, List.replicate 12 0#8⟩, tk_ok 9 (by omega)⟩
def T10 : OTouch := ⟨⟨10, 0, 0, List.replicate 12 0#8⟩, tk_ok 10 (by omega)⟩
theorem oc_one (t : OTouch) : (ocells t).all oneC = true := by simp [ocells, tcells, oneC]
theorem oc_ones (l : List OTouch) : (l.flatMap ocells).all oneC = true := by
  rw [List.all_eq_true]
  intro v hv
  obtain ⟨f, _, hv⟩ := List.mem_flatMap.1 hv
  exact List.all_eq_true.1 (oc_one f) v hv
theorem oflat (l : List OTouch) : (l.flatMap ocells).length = l.length * 15 := by
  induction l with
  | nil => rfl
  | cons t r ih => rw [List.flatMap_cons, List.length_append, ih, ocells_len, List.length_cons]; omega
def seven (T : OTouch) (i : Nat) (l : List OTouch) : List OTouch := List.replicate i T ++ l.drop i
theorem seven_wr (T : OTouch) (l : List OTouch) (i : Nat) (hi : i < l.length) : (wr ((seven T i l).flatMap ocells).toArray (i * 15) (ocells T)).toList = (seven T (i + 1) l).flatMap ocells := by
  have e1 : seven T i l = List.replicate i T ++ (l[i] :: l.drop (i + 1)) := by unfold seven; rw [← List.drop_eq_getElem_cons hi]
  have e2 : seven T (i + 1) l = List.replicate i T ++ (T :: l.drop (i + 1)) := by unfold seven; rw [List.replicate_succ', List.append_assoc]; rfl
  rw [e1, e2, List.flatMap_append, List.flatMap_append, List.flatMap_cons, List.flatMap_cons, wr_mid _ _ _ _ _ (by rw [oflat, List.length_replicate]) (by rw [ocells_len, ocells_len])]
theorem seven_all (T : OTouch) (l : List OTouch) : seven T l.length l = List.replicate l.length T := by unfold seven; rw [List.drop_length, List.append_nil]
abbrev ownT (a : Option Addr) (c n : Nat) (l : List OTouch) : Asrt := own 56 15 (.slice a n c) n (l.flatMap ocells)
def remT (s : Bool) (a : Option Addr) (c n : Nat) (l : List OTouch) : Asrt := all (if s then [] else [ownT a c n l])
/-- A row of touches that grew out of another. -/
theorem grown_rd {s : Bool} {a a' : Option Addr} {c c' n k : Nat} {l x : List OTouch} (hn : l.length = n) (hk : (l ++ x).length = n + k) (h : s = true → a' = a ∧ c' = c) {M : List Asrt} : Rd (ownT a' c' (n + k) (l ++ x) :: remT s a c n l :: M) 15 (.slice a n c) n (l.flatMap ocells) := by
  cases s with
  | false =>
    have h1 : Imp (ownT a' c' (n + k) (l ++ x) :: remT false a c n l :: M) (ownT a c n l :: M) := (Imp.tail).trans (Imp.unapp (L := [ownT a c n l]))
    exact (Rd.own (E := 56) (M := ownT a c n l :: M) .here).imp h1
  | true =>
    obtain ⟨rfl, rfl⟩ := h rfl
    have h1 := own_takeN (E := 56) (sz := 15) (n := n + k) (m := n) (c := c') (a := a') (xs := (l ++ x).flatMap ocells) (M := remT true a' c' n l :: M) (by omega)
    have e : ((l ++ x).flatMap ocells).take (n * 15) = l.flatMap ocells := by rw [List.flatMap_append]; exact List.take_left' (by rw [oflat, hn])
    rw [e] at h1
    exact (Rd.own (E := 56) (M := ownT a' c' n l :: remT true a' c' n l :: M) .here).imp h1
theorem rem_true {a : Option Addr} {c n : Nat} {l : List OTouch} {M : List Asrt} : Imp M (remT true a c n l :: M) := Imp.app (L := [])
theorem fm_snoc (X : List OTouch) (t : OTouch) : X.flatMap ocells ++ ocells t = (X ++ [t]).flatMap ocells := by simp
theorem grow_rem {s s' : Bool} {a pa : Option Addr} {c pc n k : Nat} {l x : List OTouch} (hn : l.length = n) (h : s = true → pa = a ∧ pc = c) {M : List Asrt} : Imp (all (if s' then [] else [own 56 15 (.slice pa (n + k) pc) (n + k) ((l ++ x).flatMap ocells)]) :: remT s a c n l :: M) (remT (s && s') a c n l :: M) := by
  cases s with
  | false => exact Imp.tail
  | true =>
    obtain ⟨rfl, rfl⟩ := h rfl
    cases s' with
    | true => exact Imp.tail
    | false =>
      have h1 := own_takeN (E := 56) (sz := 15) (n := n + k) (m := n) (c := pc) (a := pa) (xs := (l ++ x).flatMap ocells) (M := remT true pa pc n l :: M) (by omega)
      have e : ((l ++ x).flatMap ocells).take (n * 15) = l.flatMap ocells := by rw [List.flatMap_append]; exact List.take_left' (by rw [oflat, hn])
      rw [e] at h1
      refine (Imp.unapp (L := [own 56 15 (.slice pa (n + k) pc) (n + k) ((l ++ x).flatMap ocells)])).trans (h1.trans ?_)
      exact (Imp.swap.trans Imp.tail).trans (Imp.app (L := [ownT pa pc n l]))
theorem rd_t0 {M : List Asrt} {b o k n i : Nat} {l : List OTouch} (h : Rd M 15 (.slice (some ⟨b, o, none⟩) n k) n (l.flatMap ocells)) (hn : l.length = n) (hi : i < n) : RdAt M b (o + i * 15 + 0) (.int .i64 (l[i]'(by omega)).1.op) := by
  subst hn
  exact h.atN (j := 0) ocells_len hi (by omega) (by unfold ocells tcells; rfl)
attribute [local irreducible] ocells remT
theorem fresh_g {L : List Asrt} {pages size : Int} {fv sv : Value} {fl : List HostS.Fault} {st : List StepV} (page : Int) (hf : FaultsIn L fv fl) (hs : StepsIn L sv st) :
    Con Try.prog 5 [.agg (lfc pages size fv sv), .int .i64 page] L (fun r M => r = .bool true ∧ L = M) := by
  refine Con.get (fun w0 w F H => hf.rd.len H) ?_
  rintro ⟨fa, fc, rfl⟩
  refine Con.get (fun w0 w F H => hs.rd.len H) ?_
  rintro ⟨sa, sc, rfl⟩
  have hfl := hf.len
  have hsl := hs.len
  refine fn_x Try.func5 rfl rfl rfl Try.mixed (by kernel_rfl) ?_
  intro w0
  refine Ct.o ?_
  refine Zgb ?_
  refine Zh5 rfl ?_; intro b2
  first|refine Zhg (Za0 rfl) ?_|refine Zhg (Zas rfl) ?_
  refine Zg3 ?_
  refine Ct.o ?_
  refine Zgb ?_
  refine Zh8 rfl (by kernel_rfl) (awake_x) rfl qT ?_
  rintro _ _ ⟨rfl, rfl⟩
  refine Zg2 qA ?_
  refine Zhg (Zb0 rfl) ?_
  refine Zhn 24 rfl (rfl) ?_
  refine Zg3 ?_
  refine Ct.o ?_
  refine Zgf rfl ?_
  refine Ct.o ?_
  by_cases hfit : 0 ≤ pages ∧ pages ≤ 65536 ∧ 1 ≤ size ∧ size ≤ 4124
  · refine Ct.o ?_
    refine Zgb ?_
    first|refine Zhg (Zl8 rfl) ?_|refine Zhg (Zce rfl) ?_
    refine Zhp rfl qH rfl ?_
    first|refine Zhg (Zl8 rfl) ?_|refine Zhg (Zce rfl) ?_
    refine Zhp rfl qH rfl ?_
    refine Zh8 rfl (by kernel_rfl) (new_ok (L := []) pages size (fl := []) (by decide) (by simp) Rd.nil ⟨hfit, rfl⟩) rfl qT ?_
    rintro _ _ ⟨ph, rfl, rfl⟩
    refine Zg2 qA ?_
    first|refine Zhg (Zmm rfl) ?_|refine Zhg (Zar rfl) ?_
    refine Zhg (Zco rfl rfl) ?_
    refine Zhg (Zco rfl rfl) ?_
    first|refine Zhg (Za1 rfl) ?_|refine Zhg (Zas rfl) ?_
    first|refine Zhg (Zaz rfl) ?_|refine Zhg (Zas rfl) ?_
    refine Zg3 ?_
    refine Ct.o ?_
    refine Zgb ?_
    first|refine Zhg (Zat rfl) ?_|refine Zhg (Zar rfl) ?_
    first|refine Zhg (Zmk (b := 0) rfl rfl) ?_|refine Zhg (Zbs rfl rfl) ?_
    refine Zhn 34 rfl (decide_eq_false ((fun h => h rfl))) ?_
    first|refine Zhg (Zau rfl) ?_|refine Zhg (Zar rfl) ?_
    first|refine Zhi rfl ?_|refine Zhj rfl ?_|(refine Zhh rfl ?_; (first|refine Zhg (Zav rfl) ?_|refine Zhg (Zar rfl) ?_))
    first|refine Zhi rfl ?_|refine Zhj rfl ?_|(refine Zhh rfl ?_; (refine Zhg (Zca rfl rfl) ?_))
    refine Zhn 37 rfl (rfl) ?_
    first|refine Zhg (Zdz rfl rfl) ?_|refine Zhg (Zd0 rfl rfl) ?_|refine Zhg (Za8 rfl rfl) ?_|refine Zhg (Za9 rfl rfl) ?_|refine Zhg (Za6 rfl rfl) ?_|refine Zhg (Za7 rfl rfl) ?_
    refine Zg3 ?_
    refine Ct.o ?_
    refine Zgf rfl ?_
    refine Ct.o ?_
    refine Zgb ?_
    first|refine Zhg (Zaz rfl) ?_|refine Zhg (Zas rfl) ?_
    refine Zg3 ?_
    repeat (first|refine zA ?_|refine zB ?_|refine zD ?_|refine zE ?_|refine zF ?_|refine zG ?_|refine zH ?_|refine zI ?_|refine zJ ?_|refine zK ?_|refine zL ?_|refine zM rfl ?_|refine zN ?_|refine zO ?_|refine zP ?_|refine zQ ?_)
    refine Zgn [(7, 7), (42, 55)] (by kernel_rfl) (fun s : HostS.HS => NoF s ∧ LogOk s ∧ s.ops ≤ st.length) (fun s => hostA ph s :: cl b2 (lfc pages size (.slice fa fl.length fc) (.slice sa st.length sc)) 25 :: L) (fun s => []) ?_ ?_
    · refine Ct.o ?_
      refine Zgo [(7, 7), (42, 55)] (by kernel_rfl) (fun s : Nat × HostS.HS => s.1 ≤ st.length ∧ NoF s.2 ∧ LogOk s.2 ∧ s.2.ops ≤ s.1) (fun s => hostA ph s.2 :: cl b2 (lfc pages size (.slice fa fl.length fc) (.slice sa st.length sc)) 25 :: L) (fun s => [(7, nvv s.1)]) (fun s => st.length - s.1) (0, HostS.fresh pages size.toNat []) ⟨Nat.zero_le _, nof_fresh _ _, (by intro t h; cases h), Nat.le_refl _⟩ qI ⟨rfl, trivial⟩ ?_
      rintro ⟨i, s⟩ u ⟨hi, hN, hlog, hops⟩
      dsimp only at hi hN hlog hops ⊢
      refine Ct.o ?_
      refine Zgb ?_
      first|refine Zhg (Zat rfl) ?_|refine Zhg (Zar rfl) ?_
      first|refine Zhg (Zl8 rfl) ?_|refine Zhg (Zce rfl) ?_
      refine Zhp rfl qH rfl ?_
      first|refine Zhg (Zcr rfl) ?_|refine Zhg (Zct) ?_|refine Zhg (Zcu rfl) ?_
      first|refine Zhg (Zmf rfl rfl) ?_|refine Zhg (Zbn rfl rfl) ?_
      refine Zg3 ?_
      refine Ct.o ?_
      refine Zgg rfl (fun hB => ?_) (fun hB => ?_)
      · refine Zgt (fun F w H => host_ok (p := ph) (s := s) qH H) ?_
        intro hok
        refine Zgt (fun F w H => (hs.rd.imp (Imp.arr (M := _) qV)).someAt (by omega) H) ?_
        rintro ⟨s1, s2, rfl⟩
        obtain ⟨hbd, hbl⟩ := hs.el st[i] (List.getElem_mem hB)
        have hag := hs.at hB rfl
        have hN' := nof_told hN (pS st[i])
        obtain ⟨hlog', hops'⟩ := told_log (pS st[i]) hok hlog
        refine Ct.o ?_
        refine Zgb ?_
        first|refine Zhg (Zav rfl) ?_|refine Zhg (Zar rfl) ?_
        first|refine Zhg (Zl8 rfl) ?_|refine Zhg (Zce rfl) ?_
        refine Zhp rfl qH rfl ?_
        first|refine Zhg (Zat rfl) ?_|refine Zhg (Zar rfl) ?_
        first|refine Zhg (Zl6 rfl rfl) ?_|refine Zhg (Zcg rfl rfl) ?_
        refine Zfg rfl ((hag.imp qI)) ?_
        refine Zh8 rfl (by kernel_rfl) (told_x (p := ph) (s := s) (L := L) (pS st[i]) hbd (by omega) hbl) rfl qT ?_
        rintro _ _ ⟨a1, k1, rfl, rfl⟩
        refine Zg2 qA ?_
        refine Zg3 ?_
        refine Ct.o ?_
        refine Zgb ?_
        first|refine Zhg (Zat rfl) ?_|refine Zhg (Zar rfl) ?_
        first|refine Zhg (Zma (b := 1) rfl rfl) ?_|refine Zhg (Zbg rfl rfl) ?_
        first|refine Zhg (Zaz rfl) ?_|refine Zhg (Zas rfl) ?_
        refine Zg3 ?_
        refine Ct.o ?_
        exact Zgl (i + 1, (HostS.toldR s (pS st[i])).2) qO ⟨by dsimp only; omega, hN', hlog', by dsimp only; omega⟩ qI ⟨rfl, trivial⟩
      · have hie : i = st.length := by omega
        refine Ct.o ?_
        exact Zgk s ⟨hN, hlog, by omega⟩ qI trivial
    rintro s u ⟨hN, hlog, hops⟩
    try dsimp only
    refine Ct.o ?_
    refine Zgt (fun F w H => host_ok (p := ph) (s := s) qH H) ?_
    intro hok
    obtain ⟨e1, s1, hr1, hN1, hl1, ho1, hg1⟩ := nof_read hN page
    have hx1 := read_x (p := ph) (s := s) page (by omega)
    rw [hr1] at hx1
    dsimp only at hx1
    refine Ct.o ?_
    refine Zgb ?_
    first|refine Zhg (Zav rfl) ?_|refine Zhg (Zar rfl) ?_
    first|refine Zhg (Zat rfl) ?_|refine Zhg (Zar rfl) ?_
    refine Zh8 rfl (by kernel_rfl) (hx1) rfl qT ?_
    rintro _ _ ⟨ra, rc, rfl, rfl⟩
    refine Zg2 qA ?_
    first|refine Zhg (Zmm rfl) ?_|refine Zhg (Zar rfl) ?_
    refine Zhg (Zco rfl rfl) ?_
    refine Zhg (Zco rfl rfl) ?_
    first|refine Zhg (Za2 rfl) ?_|refine Zhg (Zas rfl) ?_
    first|refine Zhg (Zaz rfl) ?_|refine Zhg (Zas rfl) ?_
    refine Zg3 ?_
    refine Ct.o ?_
    refine Zgt (fun F w H => host_ok (p := ph) (s := s1) qH H) ?_
    intro hok1
    obtain ⟨e2, s2, hr2, hN2, hl2, ho2, hg2⟩ := nof_read hN1 page
    have hx2 := read_x (p := ph) (s := s1) page (by omega)
    rw [hr2, hl1] at hx2
    dsimp only at hx2
    refine Ct.o ?_
    refine Zgb ?_
    first|refine Zhg (Zav rfl) ?_|refine Zhg (Zar rfl) ?_
    first|refine Zhg (Zat rfl) ?_|refine Zhg (Zar rfl) ?_
    refine Zh8 rfl (by kernel_rfl) (hx2) rfl qT ?_
    rintro _ _ ⟨rb, rd, rfl, rfl⟩
    refine Zg2 qA ?_
    first|refine Zhg (Zmm rfl) ?_|refine Zhg (Zar rfl) ?_
    refine Zhg (Zco rfl rfl) ?_
    refine Zhg (Zco rfl rfl) ?_
    first|refine Zhg (Za2 rfl) ?_|refine Zhg (Zas rfl) ?_
    first|refine Zhg (Zaz rfl) ?_|refine Zhg (Zas rfl) ?_
    refine Zg3 ?_
    refine Ct.o ?_
    refine Zgt (fun F w H => host_ok (p := ph) (s := s2) qH H) ?_
    intro hok2
    have hx3 := lies_x (p := ph) (s := s2) page (by omega)
    rw [hl2, hl1] at hx3
    have hlog2 := hg2 hok1 (hg1 hok hlog)
    have hBl : (HostS.liesR s page).length ≤ 4124 := by
      unfold HostS.liesR
      split
      · rw [back_len hok]; exact hok.z1
      · simp
    clear hx1 hx2 hr1 hr2
    generalize HostS.liesR s page = B at hx3 hBl
    refine Ct.o ?_
    refine Zgb ?_
    first|refine Zhg (Zav rfl) ?_|refine Zhg (Zar rfl) ?_
    first|refine Zhg (Zat rfl) ?_|refine Zhg (Zar rfl) ?_
    refine Zh8 rfl (by kernel_rfl) (hx3) rfl qT ?_
    rintro _ _ ⟨ca, cc, rfl, rfl⟩
    refine Zg2 qA ?_
    first|refine Zhg (Zav rfl) ?_|refine Zhg (Zar rfl) ?_
    first|refine Zhg (Zat rfl) ?_|refine Zhg (Zar rfl) ?_
    refine Zh8 rfl (by kernel_rfl) (hx3) rfl qT ?_
    rintro _ _ ⟨da, dc, rfl, rfl⟩
    refine Zg2 qA ?_
    first|refine Zhg (Za2 rfl) ?_|refine Zhg (Zas rfl) ?_
    first|refine Zhg (Za2 rfl) ?_|refine Zhg (Zas rfl) ?_
    refine Zg3 ?_
    refine Ct.o ?_
    obtain ⟨ol, hol⟩ := sub_of hlog2
    have hoc : s2.log.flatMap tcells = ol.flatMap ocells := by rw [hol, List.flatMap_map]; unfold ocells; rfl
    have holl : s2.log.length = ol.length := by rw [hol, List.length_map]
    have hll := hok2.log
    have hx4 := log_x (p := ph) (s := s2) (by omega)
    unfold ownLog at hx4
    rw [holl, hoc] at hx4
    refine Ct.o ?_
    refine Zgb ?_
    first|refine Zhg (Zav rfl) ?_|refine Zhg (Zar rfl) ?_
    refine Zh8 rfl (by kernel_rfl) (hx4) rfl qT ?_
    rintro _ _ ⟨l1, m1, rfl, rfl⟩
    refine Zg2 qA ?_
    first|refine Zhg (Zav rfl) ?_|refine Zhg (Zar rfl) ?_
    refine Zh8 rfl (by kernel_rfl) (hx4) rfl qT ?_
    rintro _ _ ⟨l2, m2, rfl, rfl⟩
    refine Zg2 qA ?_
    first|refine Zhg (Za2 rfl) ?_|refine Zhg (Zas rfl) ?_
    first|refine Zhg (Za2 rfl) ?_|refine Zhg (Zas rfl) ?_
    refine Zg3 ?_
    refine Ct.o ?_
    have hol2 : ol.length ≤ 3298534883328 := by omega
    refine Ct.o ?_
    refine Zgb ?_
    first|refine Zhg (Zaw rfl) ?_|refine Zhg (Zar rfl) ?_
    refine Zh8 rfl (by kernel_rfl) (copyBytes_x (L := [ownB ra rc B]) (Bs.own .here) (by omega)) rfl qT ?_
    rintro _ _ ⟨wa, wc, rfl, rfl⟩
    refine Zg2 qA ?_
    first|refine Zhg (Za2 rfl) ?_|refine Zhg (Zas rfl) ?_
    refine Zg3 ?_
    refine Ct.o ?_
    have ebA := fun (a : Option Addr) (c : Nat) => eqBytes_x (L := [ownB a c B, ownB wa wc B]) (a := B) (b := B) (Bs.own .here) (Bs.own (.there .here))
    refine Ct.o ?_
    refine Zgb ?_
    first|refine Zhg (Zaw rfl) ?_|refine Zhg (Zar rfl) ?_
    first|refine Zhg (Zaw rfl) ?_|refine Zhg (Zar rfl) ?_
    refine Zh8 rfl (by kernel_rfl) (ebA rb rd) rfl qT ?_
    rintro _ _ ⟨rfl, rfl⟩
    refine Zg2 qA ?_
    refine Zhm 82 rfl (decide_eq_true (rfl)) ?_
    refine Zhg (Zb0 rfl) ?_
    refine Zhn 83 rfl (rfl) ?_
    first|refine Zhg (Zau rfl) ?_|refine Zhg (Zar rfl) ?_
    first|refine Zhi rfl ?_|refine Zhj rfl ?_|(refine Zhh rfl ?_; (first|refine Zhg (Zaw rfl) ?_|refine Zhg (Zar rfl) ?_))
    first|refine Zhi rfl ?_|refine Zhj rfl ?_|(refine Zhh rfl ?_; (first|refine Zhg (Zaw rfl) ?_|refine Zhg (Zar rfl) ?_))
    first|refine Zhi rfl ?_|refine Zhj rfl ?_|(refine Zhh rfl ?_; (refine Zh8 rfl (by kernel_rfl) (ebA ca cc) rfl qT ?_); (rintro _ _ ⟨rfl, rfl⟩); (refine Zg2 qA ?_))
    refine Zhm 87 rfl (decide_eq_true (rfl)) ?_
    first|refine Zhi rfl ?_|refine Zhj rfl ?_|(refine Zhh rfl ?_; (refine Zhg (Zb0 rfl) ?_))
    refine Zhn 88 rfl (rfl) ?_
    first|refine Zhg (Zdz rfl rfl) ?_|refine Zhg (Zd0 rfl rfl) ?_|refine Zhg (Za8 rfl rfl) ?_|refine Zhg (Za9 rfl rfl) ?_|refine Zhg (Za6 rfl rfl) ?_|refine Zhg (Za7 rfl rfl) ?_
    first|refine Zhg (Zau rfl) ?_|refine Zhg (Zar rfl) ?_
    first|refine Zhi rfl ?_|refine Zhj rfl ?_|(refine Zhh rfl ?_; (first|refine Zhg (Zaw rfl) ?_|refine Zhg (Zar rfl) ?_))
    first|refine Zhi rfl ?_|refine Zhj rfl ?_|(refine Zhh rfl ?_; (first|refine Zhg (Zaw rfl) ?_|refine Zhg (Zar rfl) ?_))
    first|refine Zhi rfl ?_|refine Zhj rfl ?_|(refine Zhh rfl ?_; (refine Zh8 rfl (by kernel_rfl) (ebA da dc) rfl qT ?_); (rintro _ _ ⟨rfl, rfl⟩); (refine Zg2 qA ?_))
    refine Zhm 93 rfl (decide_eq_true (rfl)) ?_
    first|refine Zhi rfl ?_|refine Zhj rfl ?_|(refine Zhh rfl ?_; (refine Zhg (Zb0 rfl) ?_))
    refine Zhn 94 rfl (rfl) ?_
    first|refine Zhg (Zdz rfl rfl) ?_|refine Zhg (Zd0 rfl rfl) ?_|refine Zhg (Za8 rfl rfl) ?_|refine Zhg (Za9 rfl rfl) ?_|refine Zhg (Za6 rfl rfl) ?_|refine Zhg (Za7 rfl rfl) ?_
    first|refine Zhg (Zau rfl) ?_|refine Zhg (Zar rfl) ?_
    first|refine Zhi rfl ?_|refine Zhj rfl ?_|(refine Zhh rfl ?_; (first|refine Zhg (Zaw rfl) ?_|refine Zhg (Zar rfl) ?_))
    first|refine Zhi rfl ?_|refine Zhj rfl ?_|(refine Zhh rfl ?_; (first|refine Zhg (Zaw rfl) ?_|refine Zhg (Zar rfl) ?_))
    first|refine Zhi rfl ?_|refine Zhj rfl ?_|(refine Zhh rfl ?_; (refine Zh8 rfl (by kernel_rfl) (sameLog_x (L := [ownT l1 m1 ol.length ol, ownT l2 m2 ol.length ol]) (a := ol) (b := ol) (Rd.own .here) (Rd.own (.there .here)) (by omega) (by omega)) rfl qT ?_); (rintro _ _ ⟨rfl, rfl⟩); (refine Zg2 qA ?_))
    refine Zhm 99 rfl (decide_eq_true (rfl)) ?_
    first|refine Zhi rfl ?_|refine Zhj rfl ?_|(refine Zhh rfl ?_; (refine Zhg (Zb0 rfl) ?_))
    refine Zhn 100 rfl (rfl) ?_
    first|refine Zhg (Zdz rfl rfl) ?_|refine Zhg (Zd0 rfl rfl) ?_|refine Zhg (Za8 rfl rfl) ?_|refine Zhg (Za9 rfl rfl) ?_|refine Zhg (Za6 rfl rfl) ?_|refine Zhg (Za7 rfl rfl) ?_
    refine Zg3 ?_
    refine Ct.o ?_
    refine Zgf rfl ?_
    refine Ct.o ?_
    refine Zgb ?_
    first|refine Zhg (Za2 rfl) ?_|refine Zhg (Zas rfl) ?_
    refine Zg3 ?_
    refine Ct.o ?_
    refine Zgp (Imp.own_nil (E := 56) (size := 15)) ?_
    have hlr : ∀ {M : List Asrt}, Rd (ownT l1 m1 ol.length ol :: M) 15 (.slice l1 ol.length m1) ol.length (ol.flatMap ocells) := Rd.own .here
    refine Ct.o ?_
    refine Zgb ?_
    first|refine Zhg (Zaw rfl) ?_|refine Zhg (Zar rfl) ?_
    first|refine Zhg (Zaw rfl) ?_|refine Zhg (Zar rfl) ?_
    refine Zia rfl rfl qH (hlr.imp (Imp.arr qV)) (by first|rfl|exact oneM_u8 _|exact oneL_u8 _|exact fc_one _|exact fc_ones _|exact oc_one _|exact oc_ones _|(simp [oneC]; done)) (by omega) qS ?_; intro ka kc
    first|refine Zhg (Za2 rfl) ?_|refine Zhg (Zas rfl) ?_
    refine Zg3 ?_
    refine Ct.o ?_
    refine Zgb ?_
    first|refine Zhg (Zaw rfl) ?_|refine Zhg (Zar rfl) ?_
    first|refine Zhg (Zaw rfl) ?_|refine Zhg (Zar rfl) ?_
    first|refine Zhg (Zaw rfl) ?_|refine Zhg (Zar rfl) ?_
    first|refine Zhg (Zaw rfl) ?_|refine Zhg (Zar rfl) ?_
    refine Zgw (Imp.arr (N := ownB ra rc B :: ownB rb rd B :: ownB ca cc B :: ownB da dc B :: own 56 15 (.slice ka (0 + ol.length) kc) (0 + ol.length) ([] ++ ol.flatMap ocells) :: ownT l1 m1 ol.length ol :: ownT l2 m2 ol.length ol :: ownB wa wc B :: hostA ph s2 :: cl b2 (lfc pages size (.slice fa fl.length fc) (.slice sa st.length sc)) 25 :: L) qV) ?_; refine Zgw (Imp.cons (Imp.cons (Imp.cons (Imp.cons (star_nil (A := ownP)))))) ?_; refine Zgw (Imp.cons (Imp.cons (Imp.cons (star_cons (A := ownP) (x := (da, dc, B)))))) ?_; refine Zgw (Imp.cons (Imp.cons (star_cons (A := ownP) (x := (ca, cc, B))))) ?_; refine Zgw (Imp.cons (star_cons (A := ownP) (x := (rb, rd, B)))) ?_; refine Zgw (star_cons (A := ownP) (x := (ra, rc, B))) ?_; refine Zh7 (cs := #[.slice _ _ _, .slice _ _ _, .slice _ _ _, .slice _ _ _]) (by omega) (by omega) rfl ?_; intro b109
    refine Zh8 rfl (by kernel_rfl) (apart_x (N := 4) (L := [cl b109 #[.slice ra B.length rc, .slice rb B.length rd, .slice ca B.length cc, .slice da B.length dc] 37]) [(ra, rc, B), (rb, rd, B), (ca, cc, B), (da, dc, B)] rfl (by omega) (by intro p hp; simp only [List.mem_cons, List.not_mem_nil, or_false] at hp; rcases hp with rfl|rfl|rfl|rfl <;> (dsimp only; omega)) (Rd.cl (o := 0) .here rfl (by simp) rfl)) rfl qT ?_
    rintro _ _ ⟨rfl, rfl⟩
    refine Zg2 qA ?_
    refine Zhg (Zb0 rfl) ?_
    refine Zhn 111 rfl (rfl) ?_
    refine Zg3 ?_
    refine Ct.o ?_
    refine Zgf rfl ?_
    refine Ct.o ?_
    rw [Nat.zero_add, List.nil_append]
    obtain ⟨n, hn⟩ : ∃ n, ol.length = n := ⟨_, rfl⟩
    rw [hn] at hol2 ⊢
    refine Ct.o ?_
    refine Zgb ?_
    first|refine Zhg (Zaz rfl) ?_|refine Zhg (Zas rfl) ?_
    refine Zg3 ?_
    repeat (first|refine zA ?_|refine zB ?_|refine zD ?_|refine zE ?_|refine zF ?_|refine zG ?_|refine zH ?_|refine zI ?_|refine zJ ?_|refine zK ?_|refine zL ?_|refine zM rfl ?_|refine zN ?_|refine zO ?_|refine zP ?_|refine zQ ?_)
    refine Zgn [(18, 18), (112, 125)] (by kernel_rfl) (fun _ : Unit => True) (fun _ => ownT l1 m1 n (List.replicate n T7) :: ownT l2 m2 n (List.replicate n T8) :: ownT ka kc n ol :: ownB wa wc B :: hostA ph s2 :: cl b2 (lfc pages size (.slice fa fl.length fc) (.slice sa st.length sc)) 25 :: L) (fun _ => []) ?_ ?_
    · refine Ct.o ?_
      refine Zgo [(18, 18), (112, 125)] (by kernel_rfl) (fun i : Nat => i ≤ n) (fun i => ownT l1 m1 n (seven T7 i ol) :: ownT l2 m2 n (seven T8 i ol) :: ownT ka kc n ol :: ownB wa wc B :: hostA ph s2 :: cl b2 (lfc pages size (.slice fa fl.length fc) (.slice sa st.length sc)) 25 :: L) (fun i => [(18, nvv i)]) (fun i => n - i) 0 (Nat.zero_le _) qI ⟨rfl, trivial⟩ ?_
      intro i u hi
      refine Ct.o ?_
      refine Zgb ?_
      first|refine Zhg (Zat rfl) ?_|refine Zhg (Zar rfl) ?_
      first|refine Zhg (Zaw rfl) ?_|refine Zhg (Zar rfl) ?_
      first|refine Zhg (Zcr rfl) ?_|refine Zhg (Zct) ?_|refine Zhg (Zcu rfl) ?_
      first|refine Zhg (Zmf rfl rfl) ?_|refine Zhg (Zbn rfl rfl) ?_
      refine Zg3 ?_
      refine Ct.o ?_
      refine Zgg rfl (fun hB => ?_) (fun hB => ?_)
      · refine Zgt (fun F w H => own_someN (n := n) (a := l1) qH (by omega) H) ?_
        rintro ⟨g1, rfl⟩
        refine Zgt (fun F w H => own_someN (n := n) (a := l2) qH (by omega) H) ?_
        rintro ⟨g2, rfl⟩
        refine Ct.o ?_
        refine Zgb ?_
        first|refine Zhg (Zaw rfl) ?_|refine Zhg (Zar rfl) ?_
        first|refine Zhg (Zat rfl) ?_|refine Zhg (Zar rfl) ?_
        first|refine Zhg (Zaw rfl) ?_|refine Zhg (Zar rfl) ?_
        first|refine Zhg (Zat rfl) ?_|refine Zhg (Zar rfl) ?_
        refine Zhg (Zdm (cs := (ocells T7).toArray) (by kernel_rfl)) ?_
        refine Zhg (Zdm (cs := (ocells T8).toArray) (by kernel_rfl)) ?_
        first|refine Zhg (Zl6 rfl rfl) ?_|refine Zhg (Zcg rfl rfl) ?_
        refine Zn0 (m := 15) (xs := (seven T7 i ol).flatMap ocells) (ys := (seven T7 (i + 1) ol).flatMap ocells) rfl rfl (by kernel_rfl) (oc_one T7) qR (by omega) (seven_wr T7 ol i (by omega)) ?_
        first|refine Zhg (Zl6 rfl rfl) ?_|refine Zhg (Zcg rfl rfl) ?_
        refine Zn0 (m := 15) (xs := (seven T8 i ol).flatMap ocells) (ys := (seven T8 (i + 1) ol).flatMap ocells) rfl rfl (by kernel_rfl) (oc_one T8) qR (by omega) (seven_wr T8 ol i (by omega)) ?_
        refine Zg3 ?_
        refine Ct.o ?_
        refine Zgb ?_
        first|refine Zhg (Zat rfl) ?_|refine Zhg (Zar rfl) ?_
        first|refine Zhg (Zma (b := 1) rfl rfl) ?_|refine Zhg (Zbg rfl rfl) ?_
        first|refine Zhg (Zaz rfl) ?_|refine Zhg (Zas rfl) ?_
        refine Zg3 ?_
        refine Ct.o ?_
        exact Zgl (i + 1) qO (by omega) qI ⟨rfl, trivial⟩
      · have hie : i = ol.length := by omega
        subst hie
        refine Ct.o ?_
        rw [seven_all, seven_all, hn]
        exact Zgk () trivial qI trivial
    intro _ u _
    try dsimp only
    refine Ct.o ?_
    refine Zgb ?_
    first|refine Zhg (Zaw rfl) ?_|refine Zhg (Zar rfl) ?_
    first|refine Zhg (Zaw rfl) ?_|refine Zhg (Zar rfl) ?_
    first|refine Zhg (Za2 rfl) ?_|refine Zhg (Zas rfl) ?_
    first|refine Zhg (Za2 rfl) ?_|refine Zhg (Zas rfl) ?_
    refine Zg3 ?_
    refine Ct.o ?_
    refine Zgb ?_
    first|refine Zhg (Zaz rfl) ?_|refine Zhg (Zas rfl) ?_
    refine Zg3 ?_
    repeat (first|refine zA ?_|refine zB ?_|refine zD ?_|refine zE ?_|refine zF ?_|refine zG ?_|refine zH ?_|refine zI ?_|refine zJ ?_|refine zK ?_|refine zL ?_|refine zM rfl ?_|refine zN ?_|refine zO ?_|refine zP ?_|refine zQ ?_)
    refine Zgn [(19, 21), (128, 139)] (by kernel_rfl) (fun s : (Option Addr × Nat × Bool) × (Option Addr × Nat × Bool) => (s.1.2.2 = true → s.1.1 = l1 ∧ s.1.2.1 = m1) ∧ (s.2.2.2 = true → s.2.1 = l2 ∧ s.2.2.1 = m2)) (fun s => ownT s.1.1 s.1.2.1 (n + 40) (List.replicate n T7 ++ List.replicate 40 T9) :: remT s.1.2.2 l1 m1 n (List.replicate n T7) :: ownT s.2.1 s.2.2.1 (n + 40) (List.replicate n T8 ++ List.replicate 40 T10) :: remT s.2.2.2 l2 m2 n (List.replicate n T8) :: ownT ka kc n ol :: ownB wa wc B :: hostA ph s2 :: cl b2 (lfc pages size (.slice fa fl.length fc) (.slice sa st.length sc)) 25 :: L) (fun s => [(19, .slice s.1.1 (n + 40) s.1.2.1), (20, .slice s.2.1 (n + 40) s.2.2.1)]) ?_ ?_
    · refine Ct.o ?_
      refine Zgo [(19, 21), (128, 139)] (by kernel_rfl) (fun s : Nat × (Option Addr × Nat × Bool) × (Option Addr × Nat × Bool) => s.1 ≤ 40 ∧ (s.2.1.2.2 = true → s.2.1.1 = l1 ∧ s.2.1.2.1 = m1) ∧ (s.2.2.2.2 = true → s.2.2.1 = l2 ∧ s.2.2.2.1 = m2)) (fun s => ownT s.2.1.1 s.2.1.2.1 (n + s.1) (List.replicate n T7 ++ List.replicate s.1 T9) :: remT s.2.1.2.2 l1 m1 n (List.replicate n T7) :: ownT s.2.2.1 s.2.2.2.1 (n + s.1) (List.replicate n T8 ++ List.replicate s.1 T10) :: remT s.2.2.2.2 l2 m2 n (List.replicate n T8) :: ownT ka kc n ol :: ownB wa wc B :: hostA ph s2 :: cl b2 (lfc pages size (.slice fa fl.length fc) (.slice sa st.length sc)) 25 :: L) (fun s => [(21, nvv s.1), (19, .slice s.2.1.1 (n + s.1) s.2.1.2.1), (20, .slice s.2.2.1 (n + s.1) s.2.2.2.1)]) (fun s => 40 - s.1) (0, (l1, m1, true), (l2, m2, true)) ⟨Nat.zero_le _, fun _ => ⟨rfl, rfl⟩, fun _ => ⟨rfl, rfl⟩⟩ (by
        dsimp only
        rw [show List.replicate n T7 ++ List.replicate 0 T9 = List.replicate n T7 from List.append_nil _, show List.replicate n T8 ++ List.replicate 0 T10 = List.replicate n T8 from List.append_nil _, Nat.add_zero]
        refine Imp.trans (rem_true (a := l2) (c := m2) (n := n) (l := List.replicate n T8)) (Imp.trans (rem_true (a := l1) (c := m1) (n := n) (l := List.replicate n T7)) ?_)
        exact qI) ⟨rfl, rfl, rfl, trivial⟩ ?_
      rintro ⟨j, ⟨pa, pc, ps⟩, ⟨qa, qc, qs⟩⟩ u ⟨hj, hps, hqs⟩
      dsimp only at hj hps hqs ⊢
      refine Ct.o ?_
      refine Zgb ?_
      first|refine Zhg (Zat rfl) ?_|refine Zhg (Zar rfl) ?_
      first|refine Zhg (Zmf (b := 40) rfl rfl) ?_|refine Zhg (Zbn rfl rfl) ?_
      refine Zg3 ?_
      refine Ct.o ?_
      refine Zgg rfl (fun hB => ?_) (fun hB => ?_)
      · have e9 : (List.replicate n T7 ++ List.replicate j T9).flatMap ocells ++ ocells T9 = (List.replicate n T7 ++ List.replicate (j + 1) T9).flatMap ocells := by
          rw [List.replicate_succ', ← List.append_assoc]; exact fm_snoc _ _
        have e10 : (List.replicate n T8 ++ List.replicate j T10).flatMap ocells ++ ocells T10 = (List.replicate n T8 ++ List.replicate (j + 1) T10).flatMap ocells := by
          rw [List.replicate_succ', ← List.append_assoc]; exact fm_snoc _ _
        refine Ct.o ?_
        refine Zgb ?_
        first|refine Zhg (Zaw rfl) ?_|refine Zhg (Zar rfl) ?_
        refine Zhg (Zdm (cs := (ocells T9).toArray) (by kernel_rfl)) ?_
        refine Zh7 (cs := (ocells T9).toArray) (by omega) (by omega) (by exact fill_one (by show (ocells T9).toArray.size = 15; simp [ocells_len]) rfl) ?_; intro b134
        refine Znq rfl rfl qH (Rd.cl (xs := ocells T9) qH (ocells_len T9) (by show 0 + 1 * 15 ≤ (ocells T9).toArray.size; simp [ocells_len]) (by kernel_rfl)) (oc_one T9) (by omega) qS (by omega) ?_; intro s' a3 c3 hs3
        first|refine Zhg (Za2 rfl) ?_|refine Zhg (Zas rfl) ?_
        refine Zg3 ?_
        refine Ct.o ?_
        rw [e9]
        refine Zgp (Imp.arr (N := ownT a3 c3 (n + j + 1) (List.replicate n T7 ++ List.replicate (j + 1) T9) :: all (if s' then [] else [own 56 15 (.slice pa (n + j) pc) (n + j) ((List.replicate n T7 ++ List.replicate j T9).flatMap ocells)]) :: remT ps l1 m1 n (List.replicate n T7) :: ownT qa qc (n + j) (List.replicate n T8 ++ List.replicate j T10) :: remT qs l2 m2 n (List.replicate n T8) :: ownT ka kc n ol :: ownB wa wc B :: hostA ph s2 :: cl b2 (lfc pages size (.slice fa fl.length fc) (.slice sa st.length sc)) 25 :: L) qV) ?_
        refine Zgp (Imp.cons (grow_rem (n := n) (s := ps) (s' := s') (k := j) (l := List.replicate n T7) (x := List.replicate j T9) (by simp) hps)) ?_
        refine Ct.o ?_
        refine Zgb ?_
        first|refine Zhg (Zaw rfl) ?_|refine Zhg (Zar rfl) ?_
        refine Zhg (Zdm (cs := (ocells T10).toArray) (by kernel_rfl)) ?_
        refine Zh7 (cs := (ocells T10).toArray) (by omega) (by omega) (by exact fill_one (by show (ocells T10).toArray.size = 15; simp [ocells_len]) rfl) ?_; intro b138
        refine Znq rfl rfl qH (Rd.cl (xs := ocells T10) qH (ocells_len T10) (by show 0 + 1 * 15 ≤ (ocells T10).toArray.size; simp [ocells_len]) (by kernel_rfl)) (oc_one T10) (by omega) qS (by omega) ?_; intro s4 a4 c4 hs4
        first|refine Zhg (Za2 rfl) ?_|refine Zhg (Zas rfl) ?_
        refine Zg3 ?_
        refine Ct.o ?_
        rw [e10]
        refine Zgp (Imp.arr (N := ownT a4 c4 (n + j + 1) (List.replicate n T8 ++ List.replicate (j + 1) T10) :: all (if s4 then [] else [own 56 15 (.slice qa (n + j) qc) (n + j) ((List.replicate n T8 ++ List.replicate j T10).flatMap ocells)]) :: remT qs l2 m2 n (List.replicate n T8) :: ownT a3 c3 (n + j + 1) (List.replicate n T7 ++ List.replicate (j + 1) T9) :: remT (ps && s') l1 m1 n (List.replicate n T7) :: ownT ka kc n ol :: ownB wa wc B :: hostA ph s2 :: cl b2 (lfc pages size (.slice fa fl.length fc) (.slice sa st.length sc)) 25 :: L) qV) ?_
        refine Zgp (Imp.cons (grow_rem (n := n) (s := qs) (s' := s4) (k := j) (l := List.replicate n T8) (x := List.replicate j T10) (by simp) hqs)) ?_
        refine Ct.o ?_
        refine Zgb ?_
        first|refine Zhg (Zat rfl) ?_|refine Zhg (Zar rfl) ?_
        first|refine Zhg (Zma (b := 1) rfl rfl) ?_|refine Zhg (Zbg rfl rfl) ?_
        first|refine Zhg (Zaz rfl) ?_|refine Zhg (Zas rfl) ?_
        refine Zg3 ?_
        refine Ct.o ?_
        refine Zgl (j + 1, (a3, c3, ps && s'), (a4, c4, qs && s4)) qO ⟨by dsimp only; omega, ?_, ?_⟩ qI ⟨rfl, rfl, rfl, trivial⟩
        · intro h
          simp only [Bool.and_eq_true] at h
          obtain ⟨h1, h2⟩ := hs3 h.2
          obtain ⟨h3, h4⟩ := hps h.1
          exact ⟨h1.trans h3, h2.trans h4⟩
        · intro h
          simp only [Bool.and_eq_true] at h
          obtain ⟨h1, h2⟩ := hs4 h.2
          obtain ⟨h3, h4⟩ := hqs h.1
          exact ⟨h1.trans h3, h2.trans h4⟩
      · have hie : j = 40 := by omega
        subst hie
        refine Ct.o ?_
        exact Zgk ((pa, pc, ps), (qa, qc, qs)) ⟨hps, hqs⟩ qI ⟨rfl, rfl, trivial⟩
    rintro ⟨⟨pa, pc, ps⟩, ⟨qa, qc, qs⟩⟩ u ⟨hps, hqs⟩
    dsimp only at hps hqs ⊢
    refine Ct.o ?_
    refine Zgb ?_
    first|refine Zhg (Zaz rfl) ?_|refine Zhg (Zas rfl) ?_
    refine Zg3 ?_
    repeat (first|refine zA ?_|refine zB ?_|refine zD ?_|refine zE ?_|refine zF ?_|refine zG ?_|refine zH ?_|refine zI ?_|refine zJ ?_|refine zK ?_|refine zL ?_|refine zM rfl ?_|refine zN ?_|refine zO ?_|refine zP ?_|refine zQ ?_)
    refine Zgn [(4, 4), (22, 22), (140, 203)] (by kernel_rfl) (fun _ : Unit => True) (fun _ => ownT ka kc n ol :: ownB wa wc B :: hostA ph s2 :: L) (fun _ => []) ?_ ?_
    · refine Ct.o ?_
      refine Zgo [(4, 4), (22, 22), (140, 203)] (by kernel_rfl) (fun i : Nat => i ≤ n + 40) (fun _ => ownT pa pc (n + 40) (List.replicate n T7 ++ List.replicate 40 T9) :: remT ps l1 m1 n (List.replicate n T7) :: ownT qa qc (n + 40) (List.replicate n T8 ++ List.replicate 40 T10) :: remT qs l2 m2 n (List.replicate n T8) :: ownT ka kc n ol :: ownB wa wc B :: hostA ph s2 :: cl b2 (lfc pages size (.slice fa fl.length fc) (.slice sa st.length sc)) 25 :: L) (fun i => [(22, nvv i)]) (fun i => n + 40 - i) 0 (Nat.zero_le _) qI ⟨rfl, trivial⟩ ?_
      intro i u hi
      refine Ct.o ?_
      refine Zgb ?_
      first|refine Zhg (Zat rfl) ?_|refine Zhg (Zar rfl) ?_
      first|refine Zhg (Zaw rfl) ?_|refine Zhg (Zar rfl) ?_
      first|refine Zhg (Zcr rfl) ?_|refine Zhg (Zct) ?_|refine Zhg (Zcu rfl) ?_
      first|refine Zhg (Zmf rfl rfl) ?_|refine Zhg (Zbn rfl rfl) ?_
      refine Zg3 ?_
      refine Ct.o ?_
      refine Zgg rfl (fun hB => ?_) (fun hB => ?_)
      · have hp7 : Rd (ownT pa pc (n + 40) (List.replicate n T7 ++ List.replicate 40 T9) :: remT ps l1 m1 n (List.replicate n T7) :: ownT qa qc (n + 40) (List.replicate n T8 ++ List.replicate 40 T10) :: remT qs l2 m2 n (List.replicate n T8) :: ownT ka kc n ol :: ownB wa wc B :: hostA ph s2 :: cl b2 (lfc pages size (.slice fa fl.length fc) (.slice sa st.length sc)) 25 :: L) 15 (.slice l1 n m1) n ((List.replicate n T7).flatMap ocells) := grown_rd (by simp) (by simp) hps
        have hq8 : Rd (ownT pa pc (n + 40) (List.replicate n T7 ++ List.replicate 40 T9) :: remT ps l1 m1 n (List.replicate n T7) :: ownT qa qc (n + 40) (List.replicate n T8 ++ List.replicate 40 T10) :: remT qs l2 m2 n (List.replicate n T8) :: ownT ka kc n ol :: ownB wa wc B :: hostA ph s2 :: cl b2 (lfc pages size (.slice fa fl.length fc) (.slice sa st.length sc)) 25 :: L) 15 (.slice l2 n m2) n ((List.replicate n T8).flatMap ocells) := (grown_rd (M := ownT ka kc n ol :: ownB wa wc B :: hostA ph s2 :: cl b2 (lfc pages size (.slice fa fl.length fc) (.slice sa st.length sc)) 25 :: L) (by simp) (by simp) hqs).imp (Imp.tail.trans Imp.tail)
        have hpp : Rd (ownT pa pc (n + 40) (List.replicate n T7 ++ List.replicate 40 T9) :: remT ps l1 m1 n (List.replicate n T7) :: ownT qa qc (n + 40) (List.replicate n T8 ++ List.replicate 40 T10) :: remT qs l2 m2 n (List.replicate n T8) :: ownT ka kc n ol :: ownB wa wc B :: hostA ph s2 :: cl b2 (lfc pages size (.slice fa fl.length fc) (.slice sa st.length sc)) 25 :: L) 15 (.slice pa (n + 40) pc) (n + 40) ((List.replicate n T7 ++ List.replicate 40 T9).flatMap ocells) := Rd.own .here
        have hqq : Rd (ownT pa pc (n + 40) (List.replicate n T7 ++ List.replicate 40 T9) :: remT ps l1 m1 n (List.replicate n T7) :: ownT qa qc (n + 40) (List.replicate n T8 ++ List.replicate 40 T10) :: remT qs l2 m2 n (List.replicate n T8) :: ownT ka kc n ol :: ownB wa wc B :: hostA ph s2 :: cl b2 (lfc pages size (.slice fa fl.length fc) (.slice sa st.length sc)) 25 :: L) 15 (.slice qa (n + 40) qc) (n + 40) ((List.replicate n T8 ++ List.replicate 40 T10).flatMap ocells) := Rd.own (.there (.there .here))
        refine Zgt (fun F w H => hpp.someAt (by omega) H) ?_
        rintro ⟨p1, p2, rfl⟩
        refine Zgt (fun F w H => hqq.someAt (by omega) H) ?_
        rintro ⟨q1, q2, rfl⟩
        have lp : (List.replicate n T7 ++ List.replicate 40 T9).length = n + 40 := by simp
        have lq : (List.replicate n T8 ++ List.replicate 40 T10).length = n + 40 := by simp
        have kp := rd_t0 hpp lp hB
        have kq := rd_t0 hqq lq hB
        by_cases hin : i < n
        · refine Zgt (fun F w H => hp7.someAt (by omega) H) ?_
          rintro ⟨l3, l4, rfl⟩
          refine Zgt (fun F w H => hq8.someAt (by omega) H) ?_
          rintro ⟨l5, l6, rfl⟩
          have k7 := rd_t0 hp7 (by simp) hin
          have k8 := rd_t0 hq8 (by simp) hin
          rw [show (List.replicate n T7)[i]'(by simpa using hin) = T7 by simp] at k7
          rw [show (List.replicate n T8)[i]'(by simpa using hin) = T8 by simp] at k8
          rw [show (List.replicate n T7 ++ List.replicate 40 T9)[i]'(by omega) = T7 by rw [List.getElem_append_left (by simpa using hin)]; simp] at kp
          rw [show (List.replicate n T8 ++ List.replicate 40 T10)[i]'(by omega) = T8 by rw [List.getElem_append_left (by simpa using hin)]; simp] at kq
          refine Ct.o ?_
          refine Zgb ?_
          first|refine Zhg (Zat rfl) ?_|refine Zhg (Zar rfl) ?_
          first|refine Zhg (Zaw rfl) ?_|refine Zhg (Zar rfl) ?_
          first|refine Zhg (Zcr rfl) ?_|refine Zhg (Zct) ?_|refine Zhg (Zcu rfl) ?_
          first|refine Zhg (Zmf rfl rfl) ?_|refine Zhg (Zbn rfl rfl) ?_
          refine Zhm 149 rfl (decide_eq_true (hin)) ?_
          first|refine Zhg (Zau rfl) ?_|refine Zhg (Zar rfl) ?_
          first|refine Zhi rfl ?_|refine Zhj rfl ?_|(refine Zhh rfl ?_; (first|refine Zhg (Zaw rfl) ?_|refine Zhg (Zar rfl) ?_))
          first|refine Zhi rfl ?_|refine Zhj rfl ?_|(refine Zhh rfl ?_; (first|refine Zhg (Zat rfl) ?_|refine Zhg (Zar rfl) ?_))
          first|refine Zhi rfl ?_|refine Zhj rfl ?_|(refine Zhh rfl ?_; (first|refine Zhg (Zl6 rfl rfl) ?_|refine Zhg (Zcg rfl rfl) ?_))
          first|refine Zhi rfl ?_|refine Zhj rfl ?_|(refine Zhh rfl ?_; (first|refine Zhg (Zl8 rfl) ?_|refine Zhg (Zce rfl) ?_))
          first|refine Zhi rfl ?_|refine Zhj rfl ?_|(refine Zhh rfl ?_; (refine Zff rfl (k7) ?_))
          first|refine Zhi rfl ?_|refine Zhj rfl ?_|(refine Zhh rfl ?_; (first|refine Zhg (Zmk (b := 7) rfl rfl) ?_|refine Zhg (Zbs rfl rfl) ?_))
          refine Zhn 156 rfl (decide_eq_false ((fun h => h rfl))) ?_
          first|refine Zhi rfl ?_|refine Zhj rfl ?_|(refine Zhh rfl ?_; (first|refine Zhg (Zau rfl) ?_|refine Zhg (Zar rfl) ?_))
          first|refine Zhi rfl ?_|refine Zhj rfl ?_|(refine Zhh rfl ?_; (first|refine Zhg (Zaw rfl) ?_|refine Zhg (Zar rfl) ?_))
          first|refine Zhi rfl ?_|refine Zhj rfl ?_|(refine Zhh rfl ?_; (first|refine Zhg (Zat rfl) ?_|refine Zhg (Zar rfl) ?_))
          first|refine Zhi rfl ?_|refine Zhj rfl ?_|(refine Zhh rfl ?_; (first|refine Zhg (Zl6 rfl rfl) ?_|refine Zhg (Zcg rfl rfl) ?_))
          first|refine Zhi rfl ?_|refine Zhj rfl ?_|(refine Zhh rfl ?_; (first|refine Zhg (Zl8 rfl) ?_|refine Zhg (Zce rfl) ?_))
          first|refine Zhi rfl ?_|refine Zhj rfl ?_|(refine Zhh rfl ?_; (refine Zff rfl (k8) ?_))
          first|refine Zhi rfl ?_|refine Zhj rfl ?_|(refine Zhh rfl ?_; (first|refine Zhg (Zmk (b := 8) rfl rfl) ?_|refine Zhg (Zbs rfl rfl) ?_))
          refine Zhn 163 rfl (decide_eq_false ((fun h => h rfl))) ?_
          first|refine Zhi rfl ?_|refine Zhj rfl ?_|(refine Zhh rfl ?_; (first|refine Zhg (Zdz rfl rfl) ?_|refine Zhg (Zd0 rfl rfl) ?_|refine Zhg (Za8 rfl rfl) ?_|refine Zhg (Za9 rfl rfl) ?_|refine Zhg (Za6 rfl rfl) ?_|refine Zhg (Za7 rfl rfl) ?_))
          first|refine Zhi rfl ?_|refine Zhj rfl ?_|(refine Zhh rfl ?_; (first|refine Zhg (Zau rfl) ?_|refine Zhg (Zar rfl) ?_))
          first|refine Zhi rfl ?_|refine Zhj rfl ?_|(refine Zhh rfl ?_; (first|refine Zhg (Zaw rfl) ?_|refine Zhg (Zar rfl) ?_))
          first|refine Zhi rfl ?_|refine Zhj rfl ?_|(refine Zhh rfl ?_; (first|refine Zhg (Zat rfl) ?_|refine Zhg (Zar rfl) ?_))
          first|refine Zhi rfl ?_|refine Zhj rfl ?_|(refine Zhh rfl ?_; (first|refine Zhg (Zl6 rfl rfl) ?_|refine Zhg (Zcg rfl rfl) ?_))
          first|refine Zhi rfl ?_|refine Zhj rfl ?_|(refine Zhh rfl ?_; (first|refine Zhg (Zl8 rfl) ?_|refine Zhg (Zce rfl) ?_))
          first|refine Zhi rfl ?_|refine Zhj rfl ?_|(refine Zhh rfl ?_; (refine Zff rfl (kp) ?_))
          first|refine Zhi rfl ?_|refine Zhj rfl ?_|(refine Zhh rfl ?_; (first|refine Zhg (Zmk (b := 7) rfl rfl) ?_|refine Zhg (Zbs rfl rfl) ?_))
          refine Zhn 171 rfl (decide_eq_false ((fun h => h rfl))) ?_
          first|refine Zhi rfl ?_|refine Zhj rfl ?_|(refine Zhh rfl ?_; (first|refine Zhg (Zdz rfl rfl) ?_|refine Zhg (Zd0 rfl rfl) ?_|refine Zhg (Za8 rfl rfl) ?_|refine Zhg (Za9 rfl rfl) ?_|refine Zhg (Za6 rfl rfl) ?_|refine Zhg (Za7 rfl rfl) ?_))
          first|refine Zhi rfl ?_|refine Zhj rfl ?_|(refine Zhh rfl ?_; (first|refine Zhg (Zau rfl) ?_|refine Zhg (Zar rfl) ?_))
          first|refine Zhi rfl ?_|refine Zhj rfl ?_|(refine Zhh rfl ?_; (first|refine Zhg (Zaw rfl) ?_|refine Zhg (Zar rfl) ?_))
          first|refine Zhi rfl ?_|refine Zhj rfl ?_|(refine Zhh rfl ?_; (first|refine Zhg (Zat rfl) ?_|refine Zhg (Zar rfl) ?_))
          first|refine Zhi rfl ?_|refine Zhj rfl ?_|(refine Zhh rfl ?_; (first|refine Zhg (Zl6 rfl rfl) ?_|refine Zhg (Zcg rfl rfl) ?_))
          first|refine Zhi rfl ?_|refine Zhj rfl ?_|(refine Zhh rfl ?_; (first|refine Zhg (Zl8 rfl) ?_|refine Zhg (Zce rfl) ?_))
          first|refine Zhi rfl ?_|refine Zhj rfl ?_|(refine Zhh rfl ?_; (refine Zff rfl (kq) ?_))
          first|refine Zhi rfl ?_|refine Zhj rfl ?_|(refine Zhh rfl ?_; (first|refine Zhg (Zmk (b := 8) rfl rfl) ?_|refine Zhg (Zbs rfl rfl) ?_))
          refine Zhn 179 rfl (decide_eq_false ((fun h => h rfl))) ?_
          first|refine Zhi rfl ?_|refine Zhj rfl ?_|(refine Zhh rfl ?_; (first|refine Zhg (Zdz rfl rfl) ?_|refine Zhg (Zd0 rfl rfl) ?_|refine Zhg (Za8 rfl rfl) ?_|refine Zhg (Za9 rfl rfl) ?_|refine Zhg (Za6 rfl rfl) ?_|refine Zhg (Za7 rfl rfl) ?_))
          first|refine Zhg (Zdz rfl rfl) ?_|refine Zhg (Zd0 rfl rfl) ?_|refine Zhg (Za8 rfl rfl) ?_|refine Zhg (Za9 rfl rfl) ?_|refine Zhg (Za6 rfl rfl) ?_|refine Zhg (Za7 rfl rfl) ?_
          first|refine Zhg (Zau rfl) ?_|refine Zhg (Zar rfl) ?_
          first|refine Zhi rfl ?_|refine Zhj rfl ?_|(refine Zhh rfl ?_; (first|refine Zhg (Zat rfl) ?_|refine Zhg (Zar rfl) ?_))
          first|refine Zhi rfl ?_|refine Zhj rfl ?_|(refine Zhh rfl ?_; (first|refine Zhg (Zaw rfl) ?_|refine Zhg (Zar rfl) ?_))
          first|refine Zhi rfl ?_|refine Zhj rfl ?_|(refine Zhh rfl ?_; (first|refine Zhg (Zcr rfl) ?_|refine Zhg (Zct) ?_|refine Zhg (Zcu rfl) ?_))
          first|refine Zhi rfl ?_|refine Zhj rfl ?_|(refine Zhh rfl ?_; (first|refine Zhg (Zmi rfl rfl) ?_|refine Zhg (Zbq rfl rfl) ?_))
          refine Zhn 186 rfl (decide_eq_false (by omega)) ?_
          first|refine Zhi rfl ?_|refine Zhj rfl ?_|(refine Zhh rfl ?_; (first|refine Zhg (Zau rfl) ?_|refine Zhg (Zar rfl) ?_))
          first|refine Zhi rfl ?_|refine Zhj rfl ?_|(refine Zhh rfl ?_; (first|refine Zhg (Zaw rfl) ?_|refine Zhg (Zar rfl) ?_))
          first|refine Zhi rfl ?_|refine Zhj rfl ?_|(refine Zhh rfl ?_; (first|refine Zhg (Zat rfl) ?_|refine Zhg (Zar rfl) ?_))
          first|refine Zhi rfl ?_|refine Zhj rfl ?_|(refine Zhh rfl ?_; (first|refine Zhg (Zl6 rfl rfl) ?_|refine Zhg (Zcg rfl rfl) ?_))
          first|refine Zhi rfl ?_|refine Zhj rfl ?_|(refine Zhh rfl ?_; (first|refine Zhg (Zl8 rfl) ?_|refine Zhg (Zce rfl) ?_))
          first|refine Zhi rfl ?_|refine Zhj rfl ?_|(refine Zhh rfl ?_; (refine Zhp rfl qH rfl ?_))
          first|refine Zhi rfl ?_|refine Zhj rfl ?_|(refine Zhh rfl ?_; (first|refine Zhg (Zmk (b := 9) rfl rfl) ?_|refine Zhg (Zbs rfl rfl) ?_))
          first|refine Zhi rfl ?_|refine Zhj rfl ?_|(refine Zhh rfl ?_; (first|refine Zhg (Zau rfl) ?_|refine Zhg (Zar rfl) ?_))
          first|refine Zhi rfl ?_|refine Zhj rfl ?_|(refine Zhh rfl ?_; (first|refine Zhg (Zaw rfl) ?_|refine Zhg (Zar rfl) ?_))
          first|refine Zhi rfl ?_|refine Zhj rfl ?_|(refine Zhh rfl ?_; (first|refine Zhg (Zat rfl) ?_|refine Zhg (Zar rfl) ?_))
          first|refine Zhi rfl ?_|refine Zhj rfl ?_|(refine Zhh rfl ?_; (first|refine Zhg (Zl6 rfl rfl) ?_|refine Zhg (Zcg rfl rfl) ?_))
          first|refine Zhi rfl ?_|refine Zhj rfl ?_|(refine Zhh rfl ?_; (first|refine Zhg (Zl8 rfl) ?_|refine Zhg (Zce rfl) ?_))
          first|refine Zhi rfl ?_|refine Zhj rfl ?_|(refine Zhh rfl ?_; (refine Zhp rfl qH rfl ?_))
          first|refine Zhi rfl ?_|refine Zhj rfl ?_|(refine Zhh rfl ?_; (first|refine Zhg (Zmk (b := 10) rfl rfl) ?_|refine Zhg (Zbs rfl rfl) ?_))
          first|refine Zhi rfl ?_|refine Zhj rfl ?_|(refine Zhh rfl ?_; (first|refine Zhg (Zdz rfl rfl) ?_|refine Zhg (Zd0 rfl rfl) ?_|refine Zhg (Za8 rfl rfl) ?_|refine Zhg (Za9 rfl rfl) ?_|refine Zhg (Za6 rfl rfl) ?_|refine Zhg (Za7 rfl rfl) ?_))
          first|refine Zhi rfl ?_|refine Zhj rfl ?_|(refine Zhh rfl ?_; (first|refine Zhg (Zdz rfl rfl) ?_|refine Zhg (Zd0 rfl rfl) ?_|refine Zhg (Za8 rfl rfl) ?_|refine Zhg (Za9 rfl rfl) ?_|refine Zhg (Za6 rfl rfl) ?_|refine Zhg (Za7 rfl rfl) ?_))
          first|refine Zhg (Zdz rfl rfl) ?_|refine Zhg (Zd0 rfl rfl) ?_|refine Zhg (Za8 rfl rfl) ?_|refine Zhg (Za9 rfl rfl) ?_|refine Zhg (Za6 rfl rfl) ?_|refine Zhg (Za7 rfl rfl) ?_
          refine Zg3 ?_
          refine Ct.o ?_
          refine Zgf rfl ?_
          refine Ct.o ?_
          refine Zgb ?_
          first|refine Zhg (Zat rfl) ?_|refine Zhg (Zar rfl) ?_
          first|refine Zhg (Zma (b := 1) rfl rfl) ?_|refine Zhg (Zbg rfl rfl) ?_
          first|refine Zhg (Zaz rfl) ?_|refine Zhg (Zas rfl) ?_
          refine Zg3 ?_
          refine Ct.o ?_
          exact Zgl (i + 1) qO (by omega) qI ⟨rfl, trivial⟩
        · rw [show (List.replicate n T7 ++ List.replicate 40 T9)[i]'(by omega) = T9 by rw [List.getElem_append_right (by simpa using hin), List.getElem_replicate]] at kp
          rw [show (List.replicate n T8 ++ List.replicate 40 T10)[i]'(by omega) = T10 by rw [List.getElem_append_right (by simpa using hin), List.getElem_replicate]] at kq
          refine Ct.o ?_
          refine Zgb ?_
          first|refine Zhg (Zat rfl) ?_|refine Zhg (Zar rfl) ?_
          first|refine Zhg (Zaw rfl) ?_|refine Zhg (Zar rfl) ?_
          first|refine Zhg (Zcr rfl) ?_|refine Zhg (Zct) ?_|refine Zhg (Zcu rfl) ?_
          first|refine Zhg (Zmf rfl rfl) ?_|refine Zhg (Zbn rfl rfl) ?_
          refine Zhn 149 rfl (decide_eq_false (hin)) ?_
          first|refine Zhg (Zau rfl) ?_|refine Zhg (Zar rfl) ?_
          first|refine Zhi rfl ?_|refine Zhj rfl ?_|(refine Zhh rfl ?_; (first|refine Zhg (Zaw rfl) ?_|refine Zhg (Zar rfl) ?_))
          first|refine Zhi rfl ?_|refine Zhj rfl ?_|(refine Zhh rfl ?_; (first|refine Zhg (Zat rfl) ?_|refine Zhg (Zar rfl) ?_))
          first|refine Zhi rfl ?_|refine Zhj rfl ?_|(refine Zhh rfl ?_; (first|refine Zhg (Zl6 rfl rfl) ?_|refine Zhg (Zcg rfl rfl) ?_))
          first|refine Zhi rfl ?_|refine Zhj rfl ?_|(refine Zhh rfl ?_; (first|refine Zhg (Zl8 rfl) ?_|refine Zhg (Zce rfl) ?_))
          first|refine Zhi rfl ?_|refine Zhj rfl ?_|(refine Zhh rfl ?_; (refine Zhp rfl qH rfl ?_))
          first|refine Zhi rfl ?_|refine Zhj rfl ?_|(refine Zhh rfl ?_; (first|refine Zhg (Zmk (b := 7) rfl rfl) ?_|refine Zhg (Zbs rfl rfl) ?_))
          first|refine Zhi rfl ?_|refine Zhj rfl ?_|(refine Zhh rfl ?_; (first|refine Zhg (Zau rfl) ?_|refine Zhg (Zar rfl) ?_))
          first|refine Zhi rfl ?_|refine Zhj rfl ?_|(refine Zhh rfl ?_; (first|refine Zhg (Zaw rfl) ?_|refine Zhg (Zar rfl) ?_))
          first|refine Zhi rfl ?_|refine Zhj rfl ?_|(refine Zhh rfl ?_; (first|refine Zhg (Zat rfl) ?_|refine Zhg (Zar rfl) ?_))
          first|refine Zhi rfl ?_|refine Zhj rfl ?_|(refine Zhh rfl ?_; (first|refine Zhg (Zl6 rfl rfl) ?_|refine Zhg (Zcg rfl rfl) ?_))
          first|refine Zhi rfl ?_|refine Zhj rfl ?_|(refine Zhh rfl ?_; (first|refine Zhg (Zl8 rfl) ?_|refine Zhg (Zce rfl) ?_))
          first|refine Zhi rfl ?_|refine Zhj rfl ?_|(refine Zhh rfl ?_; (refine Zhp rfl qH rfl ?_))
          first|refine Zhi rfl ?_|refine Zhj rfl ?_|(refine Zhh rfl ?_; (first|refine Zhg (Zmk (b := 8) rfl rfl) ?_|refine Zhg (Zbs rfl rfl) ?_))
          first|refine Zhi rfl ?_|refine Zhj rfl ?_|(refine Zhh rfl ?_; (first|refine Zhg (Zdz rfl rfl) ?_|refine Zhg (Zd0 rfl rfl) ?_|refine Zhg (Za8 rfl rfl) ?_|refine Zhg (Za9 rfl rfl) ?_|refine Zhg (Za6 rfl rfl) ?_|refine Zhg (Za7 rfl rfl) ?_))
          first|refine Zhi rfl ?_|refine Zhj rfl ?_|(refine Zhh rfl ?_; (first|refine Zhg (Zau rfl) ?_|refine Zhg (Zar rfl) ?_))
          first|refine Zhi rfl ?_|refine Zhj rfl ?_|(refine Zhh rfl ?_; (first|refine Zhg (Zaw rfl) ?_|refine Zhg (Zar rfl) ?_))
          first|refine Zhi rfl ?_|refine Zhj rfl ?_|(refine Zhh rfl ?_; (first|refine Zhg (Zat rfl) ?_|refine Zhg (Zar rfl) ?_))
          first|refine Zhi rfl ?_|refine Zhj rfl ?_|(refine Zhh rfl ?_; (first|refine Zhg (Zl6 rfl rfl) ?_|refine Zhg (Zcg rfl rfl) ?_))
          first|refine Zhi rfl ?_|refine Zhj rfl ?_|(refine Zhh rfl ?_; (first|refine Zhg (Zl8 rfl) ?_|refine Zhg (Zce rfl) ?_))
          first|refine Zhi rfl ?_|refine Zhj rfl ?_|(refine Zhh rfl ?_; (refine Zhp rfl qH rfl ?_))
          first|refine Zhi rfl ?_|refine Zhj rfl ?_|(refine Zhh rfl ?_; (first|refine Zhg (Zmk (b := 7) rfl rfl) ?_|refine Zhg (Zbs rfl rfl) ?_))
          first|refine Zhi rfl ?_|refine Zhj rfl ?_|(refine Zhh rfl ?_; (first|refine Zhg (Zdz rfl rfl) ?_|refine Zhg (Zd0 rfl rfl) ?_|refine Zhg (Za8 rfl rfl) ?_|refine Zhg (Za9 rfl rfl) ?_|refine Zhg (Za6 rfl rfl) ?_|refine Zhg (Za7 rfl rfl) ?_))
          first|refine Zhi rfl ?_|refine Zhj rfl ?_|(refine Zhh rfl ?_; (first|refine Zhg (Zau rfl) ?_|refine Zhg (Zar rfl) ?_))
          first|refine Zhi rfl ?_|refine Zhj rfl ?_|(refine Zhh rfl ?_; (first|refine Zhg (Zaw rfl) ?_|refine Zhg (Zar rfl) ?_))
          first|refine Zhi rfl ?_|refine Zhj rfl ?_|(refine Zhh rfl ?_; (first|refine Zhg (Zat rfl) ?_|refine Zhg (Zar rfl) ?_))
          first|refine Zhi rfl ?_|refine Zhj rfl ?_|(refine Zhh rfl ?_; (first|refine Zhg (Zl6 rfl rfl) ?_|refine Zhg (Zcg rfl rfl) ?_))
          first|refine Zhi rfl ?_|refine Zhj rfl ?_|(refine Zhh rfl ?_; (first|refine Zhg (Zl8 rfl) ?_|refine Zhg (Zce rfl) ?_))
          first|refine Zhi rfl ?_|refine Zhj rfl ?_|(refine Zhh rfl ?_; (refine Zhp rfl qH rfl ?_))
          first|refine Zhi rfl ?_|refine Zhj rfl ?_|(refine Zhh rfl ?_; (first|refine Zhg (Zmk (b := 8) rfl rfl) ?_|refine Zhg (Zbs rfl rfl) ?_))
          first|refine Zhi rfl ?_|refine Zhj rfl ?_|(refine Zhh rfl ?_; (first|refine Zhg (Zdz rfl rfl) ?_|refine Zhg (Zd0 rfl rfl) ?_|refine Zhg (Za8 rfl rfl) ?_|refine Zhg (Za9 rfl rfl) ?_|refine Zhg (Za6 rfl rfl) ?_|refine Zhg (Za7 rfl rfl) ?_))
          first|refine Zhg (Zdz rfl rfl) ?_|refine Zhg (Zd0 rfl rfl) ?_|refine Zhg (Za8 rfl rfl) ?_|refine Zhg (Za9 rfl rfl) ?_|refine Zhg (Za6 rfl rfl) ?_|refine Zhg (Za7 rfl rfl) ?_
          first|refine Zhg (Zau rfl) ?_|refine Zhg (Zar rfl) ?_
          first|refine Zhi rfl ?_|refine Zhj rfl ?_|(refine Zhh rfl ?_; (first|refine Zhg (Zat rfl) ?_|refine Zhg (Zar rfl) ?_))
          first|refine Zhi rfl ?_|refine Zhj rfl ?_|(refine Zhh rfl ?_; (first|refine Zhg (Zaw rfl) ?_|refine Zhg (Zar rfl) ?_))
          first|refine Zhi rfl ?_|refine Zhj rfl ?_|(refine Zhh rfl ?_; (first|refine Zhg (Zcr rfl) ?_|refine Zhg (Zct) ?_|refine Zhg (Zcu rfl) ?_))
          first|refine Zhi rfl ?_|refine Zhj rfl ?_|(refine Zhh rfl ?_; (first|refine Zhg (Zmi rfl rfl) ?_|refine Zhg (Zbq rfl rfl) ?_))
          refine Zhm 186 rfl (decide_eq_true (by omega)) ?_
          first|refine Zhi rfl ?_|refine Zhj rfl ?_|(refine Zhh rfl ?_; (first|refine Zhg (Zau rfl) ?_|refine Zhg (Zar rfl) ?_))
          first|refine Zhi rfl ?_|refine Zhj rfl ?_|(refine Zhh rfl ?_; (first|refine Zhg (Zaw rfl) ?_|refine Zhg (Zar rfl) ?_))
          first|refine Zhi rfl ?_|refine Zhj rfl ?_|(refine Zhh rfl ?_; (first|refine Zhg (Zat rfl) ?_|refine Zhg (Zar rfl) ?_))
          first|refine Zhi rfl ?_|refine Zhj rfl ?_|(refine Zhh rfl ?_; (first|refine Zhg (Zl6 rfl rfl) ?_|refine Zhg (Zcg rfl rfl) ?_))
          first|refine Zhi rfl ?_|refine Zhj rfl ?_|(refine Zhh rfl ?_; (first|refine Zhg (Zl8 rfl) ?_|refine Zhg (Zce rfl) ?_))
          first|refine Zhi rfl ?_|refine Zhj rfl ?_|(refine Zhh rfl ?_; (refine Zff rfl (kp) ?_))
          first|refine Zhi rfl ?_|refine Zhj rfl ?_|(refine Zhh rfl ?_; (first|refine Zhg (Zmk (b := 9) rfl rfl) ?_|refine Zhg (Zbs rfl rfl) ?_))
          refine Zhn 193 rfl (decide_eq_false ((fun h => h rfl))) ?_
          first|refine Zhi rfl ?_|refine Zhj rfl ?_|(refine Zhh rfl ?_; (first|refine Zhg (Zau rfl) ?_|refine Zhg (Zar rfl) ?_))
          first|refine Zhi rfl ?_|refine Zhj rfl ?_|(refine Zhh rfl ?_; (first|refine Zhg (Zaw rfl) ?_|refine Zhg (Zar rfl) ?_))
          first|refine Zhi rfl ?_|refine Zhj rfl ?_|(refine Zhh rfl ?_; (first|refine Zhg (Zat rfl) ?_|refine Zhg (Zar rfl) ?_))
          first|refine Zhi rfl ?_|refine Zhj rfl ?_|(refine Zhh rfl ?_; (first|refine Zhg (Zl6 rfl rfl) ?_|refine Zhg (Zcg rfl rfl) ?_))
          first|refine Zhi rfl ?_|refine Zhj rfl ?_|(refine Zhh rfl ?_; (first|refine Zhg (Zl8 rfl) ?_|refine Zhg (Zce rfl) ?_))
          first|refine Zhi rfl ?_|refine Zhj rfl ?_|(refine Zhh rfl ?_; (refine Zff rfl (kq) ?_))
          first|refine Zhi rfl ?_|refine Zhj rfl ?_|(refine Zhh rfl ?_; (first|refine Zhg (Zmk (b := 10) rfl rfl) ?_|refine Zhg (Zbs rfl rfl) ?_))
          refine Zhn 200 rfl (decide_eq_false ((fun h => h rfl))) ?_
          first|refine Zhi rfl ?_|refine Zhj rfl ?_|(refine Zhh rfl ?_; (first|refine Zhg (Zdz rfl rfl) ?_|refine Zhg (Zd0 rfl rfl) ?_|refine Zhg (Za8 rfl rfl) ?_|refine Zhg (Za9 rfl rfl) ?_|refine Zhg (Za6 rfl rfl) ?_|refine Zhg (Za7 rfl rfl) ?_))
          first|refine Zhi rfl ?_|refine Zhj rfl ?_|(refine Zhh rfl ?_; (first|refine Zhg (Zdz rfl rfl) ?_|refine Zhg (Zd0 rfl rfl) ?_|refine Zhg (Za8 rfl rfl) ?_|refine Zhg (Za9 rfl rfl) ?_|refine Zhg (Za6 rfl rfl) ?_|refine Zhg (Za7 rfl rfl) ?_))
          first|refine Zhg (Zdz rfl rfl) ?_|refine Zhg (Zd0 rfl rfl) ?_|refine Zhg (Za8 rfl rfl) ?_|refine Zhg (Za9 rfl rfl) ?_|refine Zhg (Za6 rfl rfl) ?_|refine Zhg (Za7 rfl rfl) ?_
          refine Zg3 ?_
          refine Ct.o ?_
          refine Zgf rfl ?_
          refine Ct.o ?_
          refine Zgb ?_
          first|refine Zhg (Zat rfl) ?_|refine Zhg (Zar rfl) ?_
          first|refine Zhg (Zma (b := 1) rfl rfl) ?_|refine Zhg (Zbg rfl rfl) ?_
          first|refine Zhg (Zaz rfl) ?_|refine Zhg (Zas rfl) ?_
          refine Zg3 ?_
          refine Ct.o ?_
          exact Zgl (i + 1) qO (by omega) qI ⟨rfl, trivial⟩
      · refine Ct.o ?_
        exact Zgk () trivial qI trivial
    intro _ u _
    try dsimp only
    refine Ct.o ?_
    refine Zgb ?_
    first|refine Zhg (Zav rfl) ?_|refine Zhg (Zar rfl) ?_
    first|refine Zhg (Zat rfl) ?_|refine Zhg (Zar rfl) ?_
    refine Zh8 rfl (by kernel_rfl) (hx3) rfl qT ?_
    rintro _ _ ⟨xa, xc, rfl, rfl⟩
    refine Zg2 qA ?_
    first|refine Zhg (Zaw rfl) ?_|refine Zhg (Zar rfl) ?_
    refine Zh8 rfl (by kernel_rfl) (ebA xa xc) rfl qT ?_
    rintro _ _ ⟨rfl, rfl⟩
    refine Zg2 qA ?_
    refine Zhm 208 rfl (decide_eq_true (rfl)) ?_
    first|refine Zhg (Zau rfl) ?_|refine Zhg (Zar rfl) ?_
    first|refine Zhi rfl ?_|refine Zhj rfl ?_|(refine Zhh rfl ?_; (first|refine Zhg (Zav rfl) ?_|refine Zhg (Zar rfl) ?_))
    first|refine Zhi rfl ?_|refine Zhj rfl ?_|(refine Zhh rfl ?_; (refine Zh8 rfl (by kernel_rfl) (hx4) rfl qT ?_); (rintro _ _ ⟨ya, yc, rfl, rfl⟩); (refine Zg2 qA ?_))
    first|refine Zhi rfl ?_|refine Zhj rfl ?_|(refine Zhh rfl ?_; (first|refine Zhg (Zaw rfl) ?_|refine Zhg (Zar rfl) ?_))
    first|refine Zhi rfl ?_|refine Zhj rfl ?_|(refine Zhh rfl ?_; (refine Zh8 rfl (by kernel_rfl) (sameLog_x (L := [own 56 15 (.slice ya ol.length yc) ol.length (ol.flatMap ocells), ownT ka kc n ol]) (a := ol) (b := ol) (Rd.own .here) (by rw [hn]; exact Rd.own (.there .here)) (by omega) (by omega)) rfl qT ?_); (rintro _ _ ⟨rfl, rfl⟩); (refine Zg2 qA ?_))
    refine Zhm 213 rfl (decide_eq_true (rfl)) ?_
    first|refine Zhg (Zdz rfl rfl) ?_|refine Zhg (Zd0 rfl rfl) ?_|refine Zhg (Za8 rfl rfl) ?_|refine Zhg (Za9 rfl rfl) ?_|refine Zhg (Za6 rfl rfl) ?_|refine Zhg (Za7 rfl rfl) ?_
    first|refine Zhg (Za0 rfl) ?_|refine Zhg (Zas rfl) ?_
    refine Zg3 ?_
    refine Ct.o ?_
    refine rx1 (Zha rfl (Zg7)) ?_
    exact ⟨_, ⟨rfl, rfl⟩, qI⟩
  · have hno := new_no (L := []) pages size (fl := []) (fv := .slice none 0 0) (by decide) (by simp) Rd.nil (fun h => hfit h.1)
    refine Ct.o ?_
    refine Zgb ?_
    first|refine Zhg (Zl8 rfl) ?_|refine Zhg (Zce rfl) ?_
    refine Zhp rfl qH rfl ?_
    first|refine Zhg (Zl8 rfl) ?_|refine Zhg (Zce rfl) ?_
    refine Zhp rfl qH rfl ?_
    refine Zh8 rfl (by kernel_rfl) (hno) rfl qT ?_
    rintro _ _ ⟨rfl, rfl⟩
    refine Zg2 qA ?_
    first|refine Zhg (Zmm rfl) ?_|refine Zhg (Zar rfl) ?_
    refine Zhg (Zco rfl rfl) ?_
    refine Zhg (Zco rfl rfl) ?_
    first|refine Zhg (Za1 rfl) ?_|refine Zhg (Zas rfl) ?_
    first|refine Zhg (Zaz rfl) ?_|refine Zhg (Zas rfl) ?_
    refine Zg3 ?_
    refine Ct.o ?_
    refine Zgb ?_
    first|refine Zhg (Zat rfl) ?_|refine Zhg (Zar rfl) ?_
    first|refine Zhg (Zmk (b := 0) rfl rfl) ?_|refine Zhg (Zbs rfl rfl) ?_
    refine Zhm 34 rfl (decide_eq_true ((by decide))) ?_
    first|refine Zhg (Zau rfl) ?_|refine Zhg (Zar rfl) ?_
    first|refine Zhi rfl ?_|refine Zhj rfl ?_|(refine Zhh rfl ?_; (first|refine Zhg (Zav rfl) ?_|refine Zhg (Zar rfl) ?_))
    first|refine Zhi rfl ?_|refine Zhj rfl ?_|(refine Zhh rfl ?_; (refine Zhg (Zca rfl rfl) ?_))
    first|refine Zhg (Zdz rfl rfl) ?_|refine Zhg (Zd0 rfl rfl) ?_|refine Zhg (Za8 rfl rfl) ?_|refine Zhg (Za9 rfl rfl) ?_|refine Zhg (Za6 rfl rfl) ?_|refine Zhg (Za7 rfl rfl) ?_
    refine Zg3 ?_
    refine Ct.o ?_
    refine Zge rfl ?_
    refine Ct.o ?_
    refine Zgb ?_
    first|refine Zhr rfl qH qZ ?_|refine Zhq rfl qH qZ rfl ?_
    refine Zh8 rfl (by kernel_rfl) (fits_x) rfl qT ?_
    rintro _ _ ⟨rfl, rfl⟩
    refine Zg2 qA ?_
    refine Zhn 40 rfl (decide_eq_false (hfit)) ?_
    refine Zhg (Zb0 rfl) ?_
    first|refine Zhg (Za0 rfl) ?_|refine Zhg (Zas rfl) ?_
    refine Zg3 ?_
    refine Ct.o ?_
    refine rx1 (Zha rfl (Zg7)) ?_
    exact ⟨_, ⟨rfl, rfl⟩, qI⟩
theorem fresh_w (W : World) (x : LifeV) (ok : LifeVOk W x) (page : Int) (wf : (Lit.int .i64 page).wf = true) : Con Try.prog 5 [.agg x.cells.toArray, .int .i64 page] [old W] (fun r M => r = .bool true ∧ [old W] = M) := by
  rw [life_lfc]; exact fresh_g page (faultsIn ok.faults_) (stepsIn ok.script_)
end Go.Sl
