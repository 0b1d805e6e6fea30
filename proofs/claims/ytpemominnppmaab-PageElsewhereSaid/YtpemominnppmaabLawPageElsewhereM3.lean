/- Parts of the proof, joined: RefA, PgK, PgL, PgE. -/
import Derived.Test.YtpemominnppmaabLawPageElsewhereM0
import Derived.Test.YtpemominnppmaabLawPageElsewhereM1
import Derived.Test.YtpemominnppmaabLawPageElsewhereM2
/- the statements' small helpers: lists of bytes compared, copied, joined. -/
set_option maxHeartbeats 4000000
set_option maxRecDepth 10000
set_option linter.unusedVariables false
set_option linter.unusedSimpArgs false
namespace Go.Sl
open Go Go.Proofs
attribute [local irreducible] cl pt own old pur ex all den denOps denS xOps xC cX CX xthen xblk xcut xloop xgo xng retX resX Calls PV Rd Con
theorem app_take_succ {α β : Type} {f : α → β} (a : List α) {l : List α} {k : Nat} (h : k < l.length) : (a ++ l.take (k + 1)).map f = (a ++ l.take k).map f ++ [f l[k]] := by
  rw [List.take_succ_eq_append_getElem h, ← List.append_assoc, List.map_append]; rfl
theorem eqBytes_x {L : List Asrt} {va vb : Value} {a b : List Byte} (ha : Bs L va a) (hb : Bs L vb b) : Con Try.prog 12 [va, vb] L (fun v M => v = .bool (decide (a = b)) ∧ L = M) := by
  refine Con.get (fun w0 w F H => ha.sh _ _ _ H) ?_
  rintro ⟨aa, ac, rfl, hac, hacm⟩
  refine Con.get (fun w0 w F H => hb.sh _ _ _ H) ?_
  rintro ⟨ba, bc, rfl, hbc, hbcm⟩
  refine fn_x Try.func12 rfl rfl rfl Try.mixed (by kernel_rfl) ?_
  intro w0
  refine Ct.o ?_
  refine Zgb ?_
  first|refine Zhg (Za0 rfl) ?_|refine Zhg (Zas rfl) ?_
  refine Zg3 ?_
  refine Ct.o ?_
  refine Zgb ?_
  first|refine Zhg (Zaw rfl) ?_|refine Zhg (Zar rfl) ?_
  first|refine Zhg (Zcr rfl) ?_|refine Zhg (Zct) ?_|refine Zhg (Zcu rfl) ?_
  first|refine Zhg (Zaw rfl) ?_|refine Zhg (Zar rfl) ?_
  first|refine Zhg (Zcr rfl) ?_|refine Zhg (Zct) ?_|refine Zhg (Zcu rfl) ?_
  first|refine Zhg (Zmk rfl rfl) ?_|refine Zhg (Zbs rfl rfl) ?_
  refine Zg3 ?_
  refine Ct.o ?_
  refine Zgg rfl (fun hB => ?_) (fun hB => ?_)
  · refine Ct.o ?_
    refine Zgb ?_
    first|refine Zhg (Za0 rfl) ?_|refine Zhg (Zas rfl) ?_
    refine Zg3 ?_
    refine Ct.o ?_
    refine rx1 (Zha rfl (Zg7)) ?_
    exact ⟨_, ⟨by rw [decide_eq_false (fun h => hB (by rw [h]))], rfl⟩, by exact Imp.arr (by repeat (first|exact Arr.nil|exact Arr.stop|refine Arr.cons (by repeat constructor) ?_|refine Arr.skip ?_))⟩
  have hlen : a.length = b.length := by omega
  refine Ct.o ?_
  refine Zgb ?_
  first|refine Zhg (Zaz rfl) ?_|refine Zhg (Zas rfl) ?_
  refine Zg3 ?_
  refine Ct.o ?_
  refine Zgo [(4, 5), (11, 25)] (by kernel_rfl) (fun i : Nat => i ≤ a.length ∧ a.take i = b.take i) (fun _ => L) (fun i => [(5, .int .i64 (i : Int))]) (fun i => a.length - i) 0 ⟨by omega, rfl⟩ (Imp.refl _) ⟨rfl, trivial⟩ ?_
  rintro i u ⟨hi, he⟩
  refine Ct.o ?_
  refine Zgb ?_
  first|refine Zhg (Zat rfl) ?_|refine Zhg (Zar rfl) ?_
  first|refine Zhg (Zaw rfl) ?_|refine Zhg (Zar rfl) ?_
  first|refine Zhg (Zcr rfl) ?_|refine Zhg (Zct) ?_|refine Zhg (Zcu rfl) ?_
  first|refine Zhg (Zmf rfl rfl) ?_|refine Zhg (Zbn rfl rfl) ?_
  refine Zg3 ?_
  refine Ct.o ?_
  refine Zgg rfl (fun hB => ?_) (fun hB => ?_)
  · have hib : i < b.length := by omega
    refine Zgt (fun F w H => ha.some (by omega) H) ?_
    rintro ⟨a1, a2, rfl⟩
    refine Zgt (fun F w H => hb.some (by omega) H) ?_
    rintro ⟨b1, b2, rfl⟩
    refine Ct.o ?_
    refine Zij (_) [7] (.q 0 (.q 1 (.q 2 (.q 4 (.q 5 (.q 6 (.r 3 (.r 7 (.q 8 .nil))))))))) (by kernel_rfl) (by kernel_rfl) (Imp.refl _) ?_
    first|refine Zim rfl (Zaw rfl) ?_|refine Zim rfl (Zar rfl) ?_
    first|refine Zim rfl (Zat rfl) ?_|refine Zim rfl (Zar rfl) ?_
    first|refine Zim rfl (Zl4 rfl rfl) ?_|refine Zim rfl (Zl1 rfl rfl) ?_
    first|refine Zim rfl (Zaw rfl) ?_|refine Zim rfl (Zar rfl) ?_
    first|refine Zim rfl (Zat rfl) ?_|refine Zim rfl (Zar rfl) ?_
    first|refine Zim rfl (Zl4 rfl rfl) ?_|refine Zim rfl (Zl1 rfl rfl) ?_
    refine Zi8 (j := i) rfl rfl ha.rd hB (getM (f := u8b) hB) ?_
    refine Zi8 (j := i) rfl rfl hb.rd hib (getM (f := u8b) hib) ?_
    refine Zim rfl (Zjl rfl rfl) ?_
    refine Zik ?_
    refine Ct.o ?_
    refine Zgg rfl (fun hB2 => ?_) (fun hB2 => ?_)
    · refine Ct.o ?_
      refine Zgb ?_
      first|refine Zhg (Za0 rfl) ?_|refine Zhg (Zas rfl) ?_
      refine Zg3 ?_
      refine Ct.o ?_
      refine rx1 (Zha rfl (Zg7)) ?_
      refine ⟨_, ⟨?_, rfl⟩, by exact Imp.arr (by repeat (first|exact Arr.nil|exact Arr.stop|refine Arr.cons (by repeat constructor) ?_|refine Arr.skip ?_))⟩
      rw [decide_eq_false]
      rintro rfl
      exact hB2 rfl
    · refine Ct.o ?_
      refine Zgb ?_
      first|refine Zhg (Zat rfl) ?_|refine Zhg (Zar rfl) ?_
      first|refine Zhg (Zma (b := 1) rfl rfl) ?_|refine Zhg (Zbg rfl rfl) ?_
      first|refine Zhg (Zaz rfl) ?_|refine Zhg (Zas rfl) ?_
      refine Zg3 ?_
      refine Ct.o ?_
      have hB2 : a[i] = b[i] := by simpa using hB2
      exact Zgl (i + 1) qO ⟨by omega, by rw [List.take_succ_eq_append_getElem hB, List.take_succ_eq_append_getElem hib, he, hB2]⟩ qI ⟨rfl, trivial⟩
  · have hie : i = a.length := by omega
    subst hie
    rw [List.take_length, hlen, List.take_length] at he
    refine Ct.o ?_
    refine Zgb ?_
    first|refine Zhg (Za0 rfl) ?_|refine Zhg (Zas rfl) ?_
    refine Zg3 ?_
    refine Ct.o ?_
    refine rx1 (Zha rfl (Zg7)) ?_
    exact ⟨_, ⟨by rw [decide_eq_true he], rfl⟩, by exact Imp.arr (by repeat (first|exact Arr.nil|exact Arr.stop|refine Arr.cons (by repeat constructor) ?_|refine Arr.skip ?_))⟩
theorem copyBytes_x {L : List Asrt} {v : Value} {l : List Byte} (h : Bs L v l) (hl : l.length ≤ 140737488355328) : Con Try.prog 11 [v] L (fun r M => ∃ a c, r = .slice a l.length c ∧ M = own 5 1 r l.length (l.map u8b) :: L) := by
  refine Con.get (fun w0 w F H => h.sh _ _ _ H) ?_
  rintro ⟨aa, ac, rfl, hac, hacm⟩
  refine fn_x Try.func11 rfl rfl rfl Try.mixed (by kernel_rfl) ?_
  intro w0
  refine Ct.o ?_
  refine Zgb ?_
  first|refine Zhg (Za2 rfl) ?_|refine Zhg (Zas rfl) ?_
  refine Zg3 ?_
  refine Ct.o ?_
  refine Zgb ?_
  first|refine Zhg (Zaw rfl) ?_|refine Zhg (Zar rfl) ?_
  first|refine Zhg (Zcr rfl) ?_|refine Zhg (Zct) ?_|refine Zhg (Zcu rfl) ?_
  refine Zm3 (f := u8b) (a := 0#8) (len := 0) rfl rfl rfl qS qS qS ?_; intro b7
  first|refine Zhg (Za2 rfl) ?_|refine Zhg (Zas rfl) ?_
  refine Zg3 ?_
  refine Ct.o ?_
  refine Zgb ?_
  first|refine Zhg (Zaz rfl) ?_|refine Zhg (Zas rfl) ?_
  refine Zg3 ?_
  refine Ct.o ?_
  refine Zgo [(3, 4), (8, 20)] (by kernel_rfl) (fun s : Nat × Option Addr × Nat × Nat => s.1 ≤ l.length ∧ s.2.2.2 = s.1) (fun s => own 5 1 (.slice s.2.1 s.1 s.2.2.1) s.1 ((l.take s.1).map u8b) :: L)
    (fun s => [(4, .int .i64 (s.1 : Int)), (3, .slice s.2.1 s.2.2.2 s.2.2.1)]) (fun s => l.length - s.1) (0, some ⟨b7, 0, none⟩, l.length, 0) ⟨Nat.zero_le _, rfl⟩ (Imp.own_mk (Nat.zero_le _) (by dsimp only; omega) (by simp) (by simp)) ⟨rfl, rfl, trivial⟩ ?_
  rintro ⟨i, a, c, n⟩ u ⟨hi, hn⟩
  dsimp only at hi hn ⊢
  subst hn
  refine Ct.o ?_
  refine Zgb ?_
  first|refine Zhg (Zat rfl) ?_|refine Zhg (Zar rfl) ?_
  first|refine Zhg (Zaw rfl) ?_|refine Zhg (Zar rfl) ?_
  first|refine Zhg (Zcr rfl) ?_|refine Zhg (Zct) ?_|refine Zhg (Zcu rfl) ?_
  first|refine Zhg (Zmf rfl rfl) ?_|refine Zhg (Zbn rfl rfl) ?_
  refine Zg3 ?_
  refine Ct.o ?_
  refine Zgg rfl (fun hB => ?_) (fun hB => ?_)
  · refine Zgt (fun F w H => (h.imp qI).some (by omega) H) ?_
    rintro ⟨a1, a2, rfl⟩
    refine Ct.o ?_
    refine Zgb ?_
    first|refine Zhg (Zaw rfl) ?_|refine Zhg (Zar rfl) ?_
    first|refine Zhg (Zaw rfl) ?_|refine Zhg (Zar rfl) ?_
    first|refine Zhg (Zat rfl) ?_|refine Zhg (Zar rfl) ?_
    first|refine Zhg (Zl4 rfl rfl) ?_|refine Zhg (Zl1 rfl rfl) ?_
    refine Zic (j := n) rfl (h.rd.imp qI) hB (getM (f := u8b) hB) ?_
    refine Zh7 (cs := #[.int .u8 _]) (by omega) (by omega) rfl ?_; intro b19
    refine Zia rfl rfl qH (Rd.cl (xs := [u8b l[n]]) qH rfl qZ rfl) qN (by omega) qS ?_; intro a2 c2
    first|refine Zhg (Za2 rfl) ?_|refine Zhg (Zas rfl) ?_
    refine Zg3 ?_
    refine Ct.o ?_
    refine Zgb ?_
    first|refine Zhg (Zat rfl) ?_|refine Zhg (Zar rfl) ?_
    first|refine Zhg (Zma (b := 1) rfl rfl) ?_|refine Zhg (Zbg rfl rfl) ?_
    first|refine Zhg (Zaz rfl) ?_|refine Zhg (Zas rfl) ?_
    refine Zg3 ?_
    refine Ct.o ?_
    refine Zgl (n + 1, a2, c2, n + 1) qO ⟨by dsimp only; omega, rfl⟩ ?_ ⟨rfl, rfl, trivial⟩
    dsimp only
    rw [List.take_succ_eq_append_getElem hB, List.map_append]
    exact Imp.arr (by repeat (first|exact Arr.nil|exact Arr.stop|refine Arr.cons (by repeat constructor) ?_|refine Arr.skip ?_))
  · have hie : n = l.length := by omega
    subst hie
    rw [List.take_length]
    refine Ct.o ?_
    refine Zgb ?_
    first|refine Zhg (Zaw rfl) ?_|refine Zhg (Zar rfl) ?_
    first|refine Zhg (Za2 rfl) ?_|refine Zhg (Zas rfl) ?_
    refine Zg3 ?_
    refine Ct.o ?_
    refine rx1 (Zhc rfl (Zg7)) ?_
    exact ⟨_, ⟨a, c, rfl, rfl⟩, by exact Imp.arr (by repeat (first|exact Arr.nil|exact Arr.stop|refine Arr.cons (by repeat constructor) ?_|refine Arr.skip ?_))⟩
end Go.Sl

/- trystlaw12: the cells of a Sheet; works, walked. -/
set_option maxHeartbeats 4000000
set_option maxRecDepth 10000
set_option linter.unusedVariables false
set_option linter.unusedSimpArgs false
namespace Go.Sl
open Go Go.Proofs
attribute [local irreducible] cl pt own old pur ex all den denOps denS xOps xC cX CX xthen xblk xcut xloop xgo xng retX resX Calls PV Rd Con
def shc (key : List Byte) (p : Plc) (v : Value) : List Value := key.map u8b ++ ([u64b p.round, u32b p.counter, u32b p.page, u32b p.version] ++ [v])
section
variable {key : List Byte} {p : Plc} {v v' : Value}
theorem shc_len (hk : key.length = 32) : ((shc key p v).toArray).size = 37 := by simp [shc, hk]
theorem shc_key (hk : key.length = 32) : ((shc key p v).toArray).extract 0 32 = (key.map u8b).toArray := by
  apply Array.ext'; simp [shc, List.extract_eq_take_drop, List.drop_append, List.take_append, List.take_of_length_le, hk]
theorem shc_place (hk : key.length = 32) : ((shc key p v).toArray).extract 32 36 = plc p := by
  apply Array.ext'; simp [shc, List.extract_eq_take_drop, List.drop_append, List.take_append, List.take_of_length_le, hk]
theorem shc_round (hk : key.length = 32) : ((shc key p v).toArray)[32]? = some (u64b p.round) := by simp [shc, List.getElem?_append, List.getElem?_cons, hk]
theorem shc_counter (hk : key.length = 32) : ((shc key p v).toArray)[33]? = some (u32b p.counter) := by simp [shc, List.getElem?_append, List.getElem?_cons, hk]
theorem shc_b (hk : key.length = 32) : ((shc key p v).toArray)[36]? = some v := by simp [shc, List.getElem?_append, List.getElem?_cons, hk]
end
def PlaceV.plc (x : PlaceV) : Plc := ⟨x.round_, x.counter_, x.page_, x.version_⟩
theorem sheet_shc (x : SheetV) : x.cells = shc x.key_ x.place_.plc x.b_V := by unfold shc SheetV.cells PlaceV.cells PlaceV.plc; rfl
theorem place_plc (x : PlaceV) : x.cells.toArray = plc x.plc := by unfold PlaceV.cells PlaceV.plc; rfl
attribute [local irreducible] pgSealB pgOpenR pgHeadR
def k7 : List Byte := 7#8 :: List.replicate 31 0#8
def p1 : Plc := ⟨1#64, 2#32, 5#32, 1#32⟩
theorem p1_head : headB p1 = [1#8, 0#8, 0#8, 0#8, 0#8, 0#8, 0#8, 0#8, 2#8, 0#8, 0#8, 0#8] := by decide
theorem pgWorks_x : Con Try.prog 10 [] [] (fun r M => r = .bool true ∧ M = []) := by
  have e1 : pgSealR k7 p1 [1#8, 2#8, 3#8] = (pgSealB k7 p1 [1#8, 2#8, 3#8], 0) := rfl
  have e2 := pg_back k7 p1 [1#8, 2#8, 3#8] (by decide)
  have e3 := pgHead_seal k7 p1 [1#8, 2#8, 3#8]
  have e4 := pgSealB_len k7 p1 [1#8, 2#8, 3#8]
  have e5 := pgSeal_head k7 p1 [1#8, 2#8, 3#8]
  have hs := fun b => pgSeal_x (L := [cl b #[u8b 1#8, u8b 2#8, u8b 3#8] 5]) k7 rfl p1 (bs_full (l := [1#8, 2#8, 3#8]) (n := 3) qH rfl (by omega)) (by decide)
  rw [e1] at hs
  rw [p1_head] at e5
  generalize pgSealB k7 p1 [1#8, 2#8, 3#8] = B at e1 e2 e3 e4 e5 hs
  have e4 : B.length = 31 := e4
  have g0 : B[0]? = some 1#8 := by rw [show B[0]? = (B.take 12)[0]? by simp, e5]; rfl
  have g8 : B[8]? = some 2#8 := by rw [show B[8]? = (B.take 12)[8]? by simp, e5]; rfl
  have m0 : (B.map u8b)[0]? = some (u8b 1#8) := by rw [List.getElem?_map, g0]; rfl
  have m8 : (B.map u8b)[8]? = some (u8b 2#8) := by rw [List.getElem?_map, g8]; rfl
  dsimp only at hs
  refine fn_x Try.func10 rfl rfl rfl Try.mixed (by kernel_rfl) ?_
  intro w0
  refine Ct.o ?_
  refine Zgb ?_
  first|refine Zhg (Za0 rfl) ?_|refine Zhg (Zas rfl) ?_
  refine Zg3 ?_
  refine Ct.o ?_
  refine Zgb ?_
  refine Zhg (Zdm (cs := #[u64b 1#64, u32b 2#32, u32b 5#32, u32b 1#32]) (by kernel_rfl)) ?_
  refine Zhz (cs := #[u64b 0#64, u32b 0#32, u32b 0#32, u32b 0#32]) rfl ?_; intro b1
  first|refine Zhy rfl rfl qR qZ qN qZ ?_|refine Zhx rfl rfl qR qZ qN qZ rfl ?_
  refine Zg3 ?_
  refine Ct.o ?_
  refine Zgb ?_
  refine Zhg (Zdn (cs := (k7.map u8b).toArray) (by kernel_rfl)) ?_
  first|refine Zhr rfl qH qZ ?_|refine Zhq rfl qH qZ rfl ?_
  refine Zh7 (cs := #[u8b 1#8, u8b 2#8, u8b 3#8]) (by omega) (by omega) (by kernel_rfl) ?_; intro b13
  refine Zh8 rfl (by kernel_rfl) (hs b13) rfl qT ?_
  rintro _ _ ⟨sa, sc, rfl, rfl⟩
  refine Zg2 qA ?_
  first|refine Zhg (Zmm rfl) ?_|refine Zhg (Zar rfl) ?_
  refine Zhg (Zco rfl rfl) ?_
  refine Zhg (Zco rfl rfl) ?_
  first|refine Zhg (Za2 rfl) ?_|refine Zhg (Zas rfl) ?_
  first|refine Zhg (Zaz rfl) ?_|refine Zhg (Zas rfl) ?_
  refine Zg3 ?_
  refine Ct.o ?_
  refine Zgt (fun F w H => own_some (a := sa) qH (by omega) H) ?_
  rintro ⟨g, rfl⟩
  refine Ct.o ?_
  refine Zgb ?_
  first|refine Zhg (Zat rfl) ?_|refine Zhg (Zar rfl) ?_
  first|refine Zhg (Zmk (b := 0) rfl rfl) ?_|refine Zhg (Zbs rfl rfl) ?_
  refine Zhn 18 rfl (decide_eq_false ((fun h => h rfl))) ?_
  first|refine Zhg (Zau rfl) ?_|refine Zhg (Zar rfl) ?_
  first|refine Zhi rfl ?_|refine Zhj rfl ?_|(refine Zhh rfl ?_; (first|refine Zhg (Zaw rfl) ?_|refine Zhg (Zar rfl) ?_))
  first|refine Zhi rfl ?_|refine Zhj rfl ?_|(refine Zhh rfl ?_; (first|refine Zhg (Zcr rfl) ?_|refine Zhg (Zct) ?_|refine Zhg (Zcu rfl) ?_))
  first|refine Zhi rfl ?_|refine Zhj rfl ?_|(refine Zhh rfl ?_; (first|refine Zhg (Zmk (b := 31) rfl rfl) ?_|refine Zhg (Zbs rfl rfl) ?_))
  refine Zhn 22 rfl (decide_eq_false ((fun h => h e4))) ?_
  first|refine Zhg (Zdz rfl rfl) ?_|refine Zhg (Zd0 rfl rfl) ?_|refine Zhg (Za8 rfl rfl) ?_|refine Zhg (Za9 rfl rfl) ?_|refine Zhg (Za6 rfl rfl) ?_|refine Zhg (Za7 rfl rfl) ?_
  first|refine Zhg (Zau rfl) ?_|refine Zhg (Zar rfl) ?_
  first|refine Zhi rfl ?_|refine Zhj rfl ?_|(refine Zhh rfl ?_; (first|refine Zhg (Zaw rfl) ?_|refine Zhg (Zar rfl) ?_))
  first|refine Zhi rfl ?_|refine Zhj rfl ?_|(refine Zhh rfl ?_; (first|refine Zhg (Zl4 (n := 0) rfl rfl) ?_|refine Zhg (Zl1 (n := 0) rfl rfl) ?_))
  first|refine Zhi rfl ?_|refine Zhj rfl ?_|(refine Zhh rfl ?_; (refine Zff rfl (((Rd.own (n := B.length) qH).at0 (by omega) m0)) ?_))
  first|refine Zhi rfl ?_|refine Zhj rfl ?_|(refine Zhh rfl ?_; (refine Zhg (Zjl (x := 1#8) (y := 1#8) rfl rfl) ?_))
  refine Zhn 28 rfl (decide_eq_false ((fun h => h rfl))) ?_
  first|refine Zhg (Zdz rfl rfl) ?_|refine Zhg (Zd0 rfl rfl) ?_|refine Zhg (Za8 rfl rfl) ?_|refine Zhg (Za9 rfl rfl) ?_|refine Zhg (Za6 rfl rfl) ?_|refine Zhg (Za7 rfl rfl) ?_
  first|refine Zhg (Zau rfl) ?_|refine Zhg (Zar rfl) ?_
  first|refine Zhi rfl ?_|refine Zhj rfl ?_|(refine Zhh rfl ?_; (first|refine Zhg (Zaw rfl) ?_|refine Zhg (Zar rfl) ?_))
  first|refine Zhi rfl ?_|refine Zhj rfl ?_|(refine Zhh rfl ?_; (first|refine Zhg (Zl4 (n := 8) rfl rfl) ?_|refine Zhg (Zl1 (n := 8) rfl rfl) ?_))
  first|refine Zhi rfl ?_|refine Zhj rfl ?_|(refine Zhh rfl ?_; (refine Zff rfl (((Rd.own (n := B.length) qH).at0 (by omega) m8)) ?_))
  first|refine Zhi rfl ?_|refine Zhj rfl ?_|(refine Zhh rfl ?_; (refine Zhg (Zjl (x := 2#8) (y := 2#8) rfl rfl) ?_))
  refine Zhn 34 rfl (decide_eq_false ((fun h => h rfl))) ?_
  first|refine Zhg (Zdz rfl rfl) ?_|refine Zhg (Zd0 rfl rfl) ?_|refine Zhg (Za8 rfl rfl) ?_|refine Zhg (Za9 rfl rfl) ?_|refine Zhg (Za6 rfl rfl) ?_|refine Zhg (Za7 rfl rfl) ?_
  refine Zg3 ?_
  refine Ct.o ?_
  refine Zgf rfl ?_
  refine Ct.o ?_
  have ho := pgOpen_x (L := [own 5 1 (.slice (some ⟨g, 0, none⟩) B.length sc) B.length (B.map u8b)]) k7 rfl p1 (Bs.own .here) (by omega)
  rw [e2] at ho
  dsimp only at ho
  refine Ct.o ?_
  refine Zgb ?_
  refine Zhg (Zdn (cs := (k7.map u8b).toArray) (by kernel_rfl)) ?_
  first|refine Zhr rfl qH qZ ?_|refine Zhq rfl qH qZ rfl ?_
  first|refine Zhg (Zaw rfl) ?_|refine Zhg (Zar rfl) ?_
  refine Zh8 rfl (by kernel_rfl) (ho) rfl qT ?_
  rintro _ _ ⟨oa, oc, rfl, rfl⟩
  refine Zg2 qA ?_
  first|refine Zhg (Zmm rfl) ?_|refine Zhg (Zar rfl) ?_
  refine Zhg (Zco rfl rfl) ?_
  refine Zhg (Zco rfl rfl) ?_
  first|refine Zhg (Za2 rfl) ?_|refine Zhg (Zas rfl) ?_
  first|refine Zhg (Zaz rfl) ?_|refine Zhg (Zas rfl) ?_
  refine Zg3 ?_
  refine Ct.o ?_
  have hh := pgHead_x (L := [own 5 1 (.slice (some ⟨g, 0, none⟩) B.length sc) B.length (B.map u8b)]) (Bs.own .here) (by omega)
  rw [e3] at hh
  dsimp only at hh
  refine Ct.o ?_
  refine Zgb ?_
  first|refine Zhg (Zaw rfl) ?_|refine Zhg (Zar rfl) ?_
  refine Zh8 rfl (by kernel_rfl) (hh) rfl qT ?_
  rintro _ _ ⟨rfl, rfl⟩
  refine Zg2 qA ?_
  first|refine Zhg (Zmm rfl) ?_|refine Zhg (Zar rfl) ?_
  refine Zhg (Zco rfl rfl) ?_
  refine Zhg (Zco rfl rfl) ?_
  refine Zhg (Zco rfl rfl) ?_
  first|refine Zhg (Zaz rfl) ?_|refine Zhg (Zas rfl) ?_
  first|refine Zhg (Zaz rfl) ?_|refine Zhg (Zas rfl) ?_
  first|refine Zhg (Zaz rfl) ?_|refine Zhg (Zas rfl) ?_
  refine Zg3 ?_
  refine Ct.o ?_
  refine Zgb ?_
  first|refine Zhg (Zat rfl) ?_|refine Zhg (Zar rfl) ?_
  first|refine Zhg (Zmj (b := 0) rfl rfl) ?_|refine Zhg (Zbr rfl rfl) ?_
  refine Zhm 50 rfl (rfl) ?_
  first|refine Zhg (Zau rfl) ?_|refine Zhg (Zar rfl) ?_
  first|refine Zhi rfl ?_|refine Zhj rfl ?_|(refine Zhh rfl ?_; (first|refine Zhg (Zaw rfl) ?_|refine Zhg (Zar rfl) ?_))
  first|refine Zhi rfl ?_|refine Zhj rfl ?_|(refine Zhh rfl ?_; (refine Zh7 (cs := #[u8b 1#8, u8b 2#8, u8b 3#8]) (by omega) (by omega) (by kernel_rfl) ?_; intro b53))
  first|refine Zhi rfl ?_|refine Zhj rfl ?_|(refine Zhh rfl ?_; (refine Zh8 rfl (by kernel_rfl) (eqBytes_x (L := [cl b53 #[u8b 1#8, u8b 2#8, u8b 3#8] 5, own 5 1 (.slice oa 3 oc) 3 (([1#8, 2#8, 3#8] : List Byte).map u8b)]) (a := [1#8, 2#8, 3#8]) (b := [1#8, 2#8, 3#8]) (Bs.own qH) (bs_full (l := [1#8, 2#8, 3#8]) (n := 3) qH rfl (by omega))) rfl qT ?_); (rintro _ _ ⟨rfl, rfl⟩); (refine Zg2 qA ?_))
  refine Zhm 54 rfl (decide_eq_true (rfl)) ?_
  first|refine Zhg (Zdz rfl rfl) ?_|refine Zhg (Zd0 rfl rfl) ?_|refine Zhg (Za8 rfl rfl) ?_|refine Zhg (Za9 rfl rfl) ?_|refine Zhg (Za6 rfl rfl) ?_|refine Zhg (Za7 rfl rfl) ?_
  first|refine Zhg (Zau rfl) ?_|refine Zhg (Zar rfl) ?_
  first|refine Zhi rfl ?_|refine Zhj rfl ?_|(refine Zhh rfl ?_; (first|refine Zhg (Zat rfl) ?_|refine Zhg (Zar rfl) ?_))
  first|refine Zhi rfl ?_|refine Zhj rfl ?_|(refine Zhh rfl ?_; (refine Zhg (Zln (x := 1#64) (y := 1#64) rfl rfl) ?_))
  refine Zhm 58 rfl (decide_eq_true (rfl)) ?_
  first|refine Zhg (Zdz rfl rfl) ?_|refine Zhg (Zd0 rfl rfl) ?_|refine Zhg (Za8 rfl rfl) ?_|refine Zhg (Za9 rfl rfl) ?_|refine Zhg (Za6 rfl rfl) ?_|refine Zhg (Za7 rfl rfl) ?_
  first|refine Zhg (Zau rfl) ?_|refine Zhg (Zar rfl) ?_
  first|refine Zhi rfl ?_|refine Zhj rfl ?_|(refine Zhh rfl ?_; (first|refine Zhg (Zat rfl) ?_|refine Zhg (Zar rfl) ?_))
  first|refine Zhi rfl ?_|refine Zhj rfl ?_|(refine Zhh rfl ?_; (refine Zhg (Zky (x := 2#32) (y := 2#32) rfl rfl) ?_))
  refine Zhm 62 rfl (decide_eq_true (rfl)) ?_
  first|refine Zhg (Zdz rfl rfl) ?_|refine Zhg (Zd0 rfl rfl) ?_|refine Zhg (Za8 rfl rfl) ?_|refine Zhg (Za9 rfl rfl) ?_|refine Zhg (Za6 rfl rfl) ?_|refine Zhg (Za7 rfl rfl) ?_
  first|refine Zhg (Zau rfl) ?_|refine Zhg (Zar rfl) ?_
  first|refine Zhi rfl ?_|refine Zhj rfl ?_|(refine Zhh rfl ?_; (first|refine Zhg (Zat rfl) ?_|refine Zhg (Zar rfl) ?_))
  first|refine Zhi rfl ?_|refine Zhj rfl ?_|(refine Zhh rfl ?_; (first|refine Zhg (Zmj (b := 0) rfl rfl) ?_|refine Zhg (Zbr rfl rfl) ?_))
  refine Zhm 66 rfl (rfl) ?_
  first|refine Zhg (Zdz rfl rfl) ?_|refine Zhg (Zd0 rfl rfl) ?_|refine Zhg (Za8 rfl rfl) ?_|refine Zhg (Za9 rfl rfl) ?_|refine Zhg (Za6 rfl rfl) ?_|refine Zhg (Za7 rfl rfl) ?_
  first|refine Zhg (Za0 rfl) ?_|refine Zhg (Zas rfl) ?_
  refine Zg3 ?_
  refine Ct.o ?_
  refine rx1 (Zha rfl (Zg7)) ?_
  exact ⟨_, ⟨rfl, rfl⟩, qI⟩
end Go.Sl

/- trystlaw12: PageNames, PageReturns, PageOneForm, PageElsewhere, walked. -/
set_option maxHeartbeats 4000000
set_option maxRecDepth 10000
set_option linter.unusedVariables false
set_option linter.unusedSimpArgs false
namespace Go.Sl
open Go Go.Proofs
attribute [local irreducible] cl pt own old pur ex all den denOps denS xOps xC cX CX xthen xblk xcut xloop xgo xng retX resX Calls PV Rd Con
attribute [local irreducible] pgSealB pgOpenR pgHeadR pgSealR pgOpens
theorem shc_one (key : List Byte) (p : Plc) (a : Option Addr) (n c : Nat) : ((shc key p (.slice a n c)).toArray).toList.all oneC = true := by simp [shc, oneC]
theorem pgSealR_long (key : List Byte) (p : Plc) (text : List Byte) (h : 4096 < text.length) : pgSealR key p text = ([], 3) := by unfold pgSealR; rw [if_pos h]
theorem pgSealR_ok (key : List Byte) (p : Plc) (text : List Byte) (h : ¬ 4096 < text.length) : pgSealR key p text = (pgSealB key p text, 0) := by unfold pgSealR; rw [if_neg h]
theorem pgOpenR_no (key : List Byte) (p : Plc) (box : List Byte) (h : ¬ pgFits p box) : pgOpenR key p box = ([], 120) := by
  have h' : ¬ pgOpens key p box := by unfold pgOpens; exact fun h2 => h h2.1
  unfold pgOpenR; rw [if_neg h']
theorem pgOpenR_not (key : List Byte) (p : Plc) (box : List Byte) (h : ¬ pgOpens key p box) : pgOpenR key p box = ([], 120) := by unfold pgOpenR; rw [if_neg h]
theorem pgOpenR_yes (key : List Byte) (p : Plc) (box : List Byte) (h : pgOpens key p box) : pgOpenR key p box = ((pgOpenR key p box).1, 0) := by unfold pgOpenR; rw [if_pos h]
def kz : List Byte := List.replicate 32 0#8
def pz : Plc := ⟨0#64, 0#32, 0#32, 0#32⟩
theorem names_x {L : List Asrt} : Con Try.prog 3 [] L (fun r M => r = .bool true ∧ L = M) := by
  have h1 := fun b => pgOpen_x (L := [cl b ((List.replicate 27 0#8).map u8b).toArray 5]) kz rfl pz (bs_full (l := List.replicate 27 0#8) (n := 27) .here List.length_replicate (by omega)) (by rw [List.length_replicate]; omega)
  have h2 := fun b => pgOpen_x (L := [cl b ((List.replicate 4125 0#8).map u8b).toArray 5]) kz rfl pz (bs_full (l := List.replicate 4125 0#8) (n := 4125) .here List.length_replicate (by omega)) (by rw [List.length_replicate]; omega)
  have h3 := fun b => pgSeal_x (L := [cl b ((List.replicate 4097 0#8).map u8b).toArray 5]) kz rfl pz (bs_full (l := List.replicate 4097 0#8) (n := 4097) .here List.length_replicate (by omega)) (by rw [List.length_replicate]; omega)
  have h4 := fun b => pgHead_x (L := [cl b ((List.replicate 27 0#8).map u8b).toArray 5]) (bs_full (l := List.replicate 27 0#8) (n := 27) .here List.length_replicate (by omega)) (by rw [List.length_replicate]; omega)
  rw [pgOpenR_no kz pz _ (fun h => by have := h.1; rw [List.length_replicate] at this; omega)] at h1
  rw [pgOpenR_no kz pz _ (fun h => by have := h.2.1; rw [List.length_replicate] at this; omega)] at h2
  rw [pgSealR_long kz pz _ (by rw [List.length_replicate]; omega)] at h3
  rw [show pgHeadR (List.replicate 27 0#8) = (0#64, 0#32, 20) from by unfold pgHeadR; rw [if_pos (by rw [List.length_replicate]; omega)]] at h4
  dsimp only at h1 h2 h3 h4
  refine fn_x Try.func3 rfl rfl rfl Try.mixed (by kernel_rfl) ?_
  intro w0
  refine Ct.o ?_
  refine Zgb ?_
  first|refine Zhg (Za0 rfl) ?_|refine Zhg (Zas rfl) ?_
  refine Zg3 ?_
  refine Ct.o ?_
  refine Zgb ?_
  refine Zhg (Zdn (cs := (kz.map u8b).toArray) (by kernel_rfl)) ?_
  refine Zhg (Zdm (cs := #[u64b 0#64, u32b 0#32, u32b 0#32, u32b 0#32]) (by kernel_rfl)) ?_
  refine Zm3 (f := u8b) (a := 0#8) (len := 27) (cap := 27) rfl rfl rfl qS qS qS ?_; intro b13
  refine Zh8 rfl (by kernel_rfl) (h1 b13) rfl qT ?_
  rintro _ _ ⟨a1, c1, rfl, rfl⟩
  refine Zg2 qA ?_
  first|refine Zhg (Zmm rfl) ?_|refine Zhg (Zar rfl) ?_
  refine Zhg (Zco rfl rfl) ?_
  refine Zhg (Zco rfl rfl) ?_
  first|refine Zhg (Za2 rfl) ?_|refine Zhg (Zas rfl) ?_
  first|refine Zhg (Zaz rfl) ?_|refine Zhg (Zas rfl) ?_
  refine Zg3 ?_
  refine Ct.o ?_
  refine Zgb ?_
  refine Zhg (Zdn (cs := (kz.map u8b).toArray) (by kernel_rfl)) ?_
  refine Zhg (Zdm (cs := #[u64b 0#64, u32b 0#32, u32b 0#32, u32b 0#32]) (by kernel_rfl)) ?_
  refine Zm3 (f := u8b) (a := 0#8) (len := 4125) (cap := 4125) rfl rfl rfl qS qS qS ?_; intro b20
  refine Zh8 rfl (by kernel_rfl) (h2 b20) rfl qT ?_
  rintro _ _ ⟨a2, c2, rfl, rfl⟩
  refine Zg2 qA ?_
  first|refine Zhg (Zmm rfl) ?_|refine Zhg (Zar rfl) ?_
  refine Zhg (Zco rfl rfl) ?_
  refine Zhg (Zco rfl rfl) ?_
  first|refine Zhg (Za2 rfl) ?_|refine Zhg (Zas rfl) ?_
  first|refine Zhg (Zaz rfl) ?_|refine Zhg (Zas rfl) ?_
  refine Zg3 ?_
  refine Ct.o ?_
  refine Zgb ?_
  refine Zhg (Zdn (cs := (kz.map u8b).toArray) (by kernel_rfl)) ?_
  refine Zhg (Zdm (cs := #[u64b 0#64, u32b 0#32, u32b 0#32, u32b 0#32]) (by kernel_rfl)) ?_
  refine Zm3 (f := u8b) (a := 0#8) (len := 4097) (cap := 4097) rfl rfl rfl qS qS qS ?_; intro b27
  refine Zh8 rfl (by kernel_rfl) (h3 b27) rfl qT ?_
  rintro _ _ ⟨a3, c3, rfl, rfl⟩
  refine Zg2 qA ?_
  first|refine Zhg (Zmm rfl) ?_|refine Zhg (Zar rfl) ?_
  refine Zhg (Zco rfl rfl) ?_
  refine Zhg (Zco rfl rfl) ?_
  first|refine Zhg (Za2 rfl) ?_|refine Zhg (Zas rfl) ?_
  first|refine Zhg (Zaz rfl) ?_|refine Zhg (Zas rfl) ?_
  refine Zg3 ?_
  refine Ct.o ?_
  refine Zgb ?_
  refine Zm3 (f := u8b) (a := 0#8) (len := 27) (cap := 27) rfl rfl rfl qS qS qS ?_; intro b32
  refine Zh8 rfl (by kernel_rfl) (h4 b32) rfl qT ?_
  rintro _ _ ⟨rfl, rfl⟩
  refine Zg2 qA ?_
  first|refine Zhg (Zmm rfl) ?_|refine Zhg (Zar rfl) ?_
  refine Zhg (Zco rfl rfl) ?_
  refine Zhg (Zco rfl rfl) ?_
  refine Zhg (Zco rfl rfl) ?_
  first|refine Zhg (Zaz rfl) ?_|refine Zhg (Zas rfl) ?_
  first|refine Zhg (Zaz rfl) ?_|refine Zhg (Zas rfl) ?_
  first|refine Zhg (Zaz rfl) ?_|refine Zhg (Zas rfl) ?_
  refine Zg3 ?_
  refine Ct.o ?_
  refine Zgb ?_
  first|refine Zhg (Zau rfl) ?_|refine Zhg (Zar rfl) ?_
  first|refine Zhi rfl ?_|refine Zhj rfl ?_|(refine Zhh rfl ?_; (first|refine Zhg (Zat rfl) ?_|refine Zhg (Zar rfl) ?_))
  first|refine Zhi rfl ?_|refine Zhj rfl ?_|(refine Zhh rfl ?_; (first|refine Zhg (Zmj (b := 120) rfl rfl) ?_|refine Zhg (Zbr rfl rfl) ?_))
  refine Zhm 39 rfl (rfl) ?_
  first|refine Zhg (Zdz rfl rfl) ?_|refine Zhg (Zd0 rfl rfl) ?_|refine Zhg (Za8 rfl rfl) ?_|refine Zhg (Za9 rfl rfl) ?_|refine Zhg (Za6 rfl rfl) ?_|refine Zhg (Za7 rfl rfl) ?_
  first|refine Zhg (Zau rfl) ?_|refine Zhg (Zar rfl) ?_
  first|refine Zhi rfl ?_|refine Zhj rfl ?_|(refine Zhh rfl ?_; (first|refine Zhg (Zat rfl) ?_|refine Zhg (Zar rfl) ?_))
  first|refine Zhi rfl ?_|refine Zhj rfl ?_|(refine Zhh rfl ?_; (first|refine Zhg (Zmj (b := 120) rfl rfl) ?_|refine Zhg (Zbr rfl rfl) ?_))
  refine Zhm 43 rfl (rfl) ?_
  first|refine Zhg (Zdz rfl rfl) ?_|refine Zhg (Zd0 rfl rfl) ?_|refine Zhg (Za8 rfl rfl) ?_|refine Zhg (Za9 rfl rfl) ?_|refine Zhg (Za6 rfl rfl) ?_|refine Zhg (Za7 rfl rfl) ?_
  first|refine Zhg (Zau rfl) ?_|refine Zhg (Zar rfl) ?_
  first|refine Zhi rfl ?_|refine Zhj rfl ?_|(refine Zhh rfl ?_; (first|refine Zhg (Zat rfl) ?_|refine Zhg (Zar rfl) ?_))
  first|refine Zhi rfl ?_|refine Zhj rfl ?_|(refine Zhh rfl ?_; (first|refine Zhg (Zmj (b := 3) rfl rfl) ?_|refine Zhg (Zbr rfl rfl) ?_))
  refine Zhm 47 rfl (rfl) ?_
  first|refine Zhg (Zdz rfl rfl) ?_|refine Zhg (Zd0 rfl rfl) ?_|refine Zhg (Za8 rfl rfl) ?_|refine Zhg (Za9 rfl rfl) ?_|refine Zhg (Za6 rfl rfl) ?_|refine Zhg (Za7 rfl rfl) ?_
  first|refine Zhg (Zau rfl) ?_|refine Zhg (Zar rfl) ?_
  first|refine Zhi rfl ?_|refine Zhj rfl ?_|(refine Zhh rfl ?_; (first|refine Zhg (Zat rfl) ?_|refine Zhg (Zar rfl) ?_))
  first|refine Zhi rfl ?_|refine Zhj rfl ?_|(refine Zhh rfl ?_; (first|refine Zhg (Zmj (b := 20) rfl rfl) ?_|refine Zhg (Zbr rfl rfl) ?_))
  refine Zhm 51 rfl (rfl) ?_
  first|refine Zhg (Zdz rfl rfl) ?_|refine Zhg (Zd0 rfl rfl) ?_|refine Zhg (Za8 rfl rfl) ?_|refine Zhg (Za9 rfl rfl) ?_|refine Zhg (Za6 rfl rfl) ?_|refine Zhg (Za7 rfl rfl) ?_
  first|refine Zhg (Zau rfl) ?_|refine Zhg (Zar rfl) ?_
  first|refine Zhg (Zdz rfl rfl) ?_|refine Zhg (Zd0 rfl rfl) ?_|refine Zhg (Za8 rfl rfl) ?_|refine Zhg (Za9 rfl rfl) ?_|refine Zhg (Za6 rfl rfl) ?_|refine Zhg (Za7 rfl rfl) ?_
  first|refine Zhg (Zau rfl) ?_|refine Zhg (Zar rfl) ?_
  first|refine Zhg (Zdz rfl rfl) ?_|refine Zhg (Zd0 rfl rfl) ?_|refine Zhg (Za8 rfl rfl) ?_|refine Zhg (Za9 rfl rfl) ?_|refine Zhg (Za6 rfl rfl) ?_|refine Zhg (Za7 rfl rfl) ?_
  first|refine Zhg (Zau rfl) ?_|refine Zhg (Zar rfl) ?_
  first|refine Zhg (Zdz rfl rfl) ?_|refine Zhg (Zd0 rfl rfl) ?_|refine Zhg (Za8 rfl rfl) ?_|refine Zhg (Za9 rfl rfl) ?_|refine Zhg (Za6 rfl rfl) ?_|refine Zhg (Za7 rfl rfl) ?_
  first|refine Zhg (Zau rfl) ?_|refine Zhg (Zar rfl) ?_
  first|refine Zhi rfl ?_|refine Zhj rfl ?_|(refine Zhh rfl ?_; (refine Zh8 rfl (by kernel_rfl) (pgWorks_x) rfl qT ?_); (rintro _ _ ⟨rfl, rfl⟩); (refine Zg2 qA ?_))
  first|refine Zhg (Zdz rfl rfl) ?_|refine Zhg (Zd0 rfl rfl) ?_|refine Zhg (Za8 rfl rfl) ?_|refine Zhg (Za9 rfl rfl) ?_|refine Zhg (Za6 rfl rfl) ?_|refine Zhg (Za7 rfl rfl) ?_
  first|refine Zhg (Za0 rfl) ?_|refine Zhg (Zas rfl) ?_
  refine Zg3 ?_
  refine Ct.o ?_
  refine rx1 (Zha rfl (Zg7)) ?_
  exact ⟨_, ⟨rfl, rfl⟩, qI⟩
theorem returns_g {L : List Asrt} (key : List Byte) (hk : key.length = 32) (p : Plc) {vt : Value} {text : List Byte} (hta : Bs L vt text) (htl : text.length ≤ 140737488351232) :
    Con Try.prog 4 [.agg (shc key p vt).toArray] L (fun r M => r = .bool true ∧ L = M) := by
  refine Con.get (fun w0 w F H => hta.sh _ _ _ H) ?_
  rintro ⟨ta, tc, rfl, htc1, htc2⟩
  have hlen := shc_len (p := p) (v := .slice ta text.length tc) hk
  have c0 := shc_key (p := p) (v := .slice ta text.length tc) hk
  have c1 := shc_place (p := p) (v := .slice ta text.length tc) hk
  have c2 := shc_b (p := p) (v := .slice ta text.length tc) hk
  have c3 := shc_round (p := p) (v := .slice ta text.length tc) hk
  have c4 := shc_counter (p := p) (v := .slice ta text.length tc) hk
  have hs := fun a c => pgSeal_x (L := [own 5 1 (.slice a text.length c) text.length (text.map u8b)]) key hk p (Bs.own .here) htl
  by_cases hlong : 4096 < text.length
  · rw [pgSealR_long key p text hlong] at hs
    dsimp only at hs
    refine fn_x Try.func4 rfl rfl rfl Try.mixed (by kernel_rfl) ?_
    intro w0
    refine Ct.o ?_
    refine Zgb ?_
    refine Zh5 rfl ?_; intro b1
    first|refine Zhg (Za0 rfl) ?_|refine Zhg (Zas rfl) ?_
    refine Zg3 ?_
    refine Ct.o ?_
    refine Zij ([cl b1 ((shc key p (.slice ta text.length tc)).toArray) 36]) [3, 5, 6] (.q 0 (.q 2 (.q 4 (.r 1 (.r 3 (.r 5 (.e 6 true (.e 7 false (.q 8 (.q 9 (.q 10 (.q 11 (.q 12 .nil))))))))))))) (by kernel_rfl) (by kernel_rfl) (Imp.arr qV) ?_
    first|refine Zim rfl (Zl8 rfl) ?_|refine Zim rfl (Zce rfl) ?_
    first|refine Zim rfl (Zl8 rfl) ?_|refine Zim rfl (Zce rfl) ?_
    first|refine Zim rfl (Zl8 rfl) ?_|refine Zim rfl (Zce rfl) ?_
    refine Zix (n := 32) rfl rfl qH qZ (c0) ?_
    refine Zix (n := 4) rfl rfl qH qZ (c1) ?_
    refine Ziv rfl rfl qH (c2) ?_
    refine Ziq rfl ?_
    refine Zh8 rfl (by kernel_rfl) (copyBytes_x (L := L) hta (by omega)) rfl qT ?_
    rintro _ _ ⟨ca, cc, rfl, rfl⟩
    refine Zg2 qA ?_
    refine Zg3 ⟨fun _ => Imp.arr qV, ?_⟩
    refine Ziq rfl ?_
    refine Zh8 rfl (by kernel_rfl) (hs ca cc) rfl qT ?_
    rintro _ _ ⟨sa, sc, rfl, rfl⟩
    refine Zg2 qA ?_
    refine Zg3 ⟨(fun hh => Bool.noConfusion hh), ?_⟩
    first|refine Zim rfl (Zmm rfl) ?_|refine Zim rfl (Zar rfl) ?_
    refine Zim rfl (Zco rfl rfl) ?_
    refine Zim rfl (Zco rfl rfl) ?_
    first|refine Zim rfl (Za2 rfl) ?_|refine Zim rfl (Zas rfl) ?_
    first|refine Zim rfl (Zaz rfl) ?_|refine Zim rfl (Zas rfl) ?_
    refine Zik ?_
    refine Ct.o ?_
    refine Zgb ?_
    first|refine Zhg (Zl8 rfl) ?_|refine Zhg (Zce rfl) ?_
    refine Zhp rfl qH (c2) ?_
    first|refine Zhg (Zcr rfl) ?_|refine Zhg (Zct) ?_|refine Zhg (Zcu rfl) ?_
    first|refine Zhg (Zmh (b := 4096) rfl rfl) ?_|refine Zhg (Zbp rfl rfl) ?_
    refine Zhm 24 rfl (decide_eq_true (hlong)) ?_
    refine Zg3 ?_
    refine Ct.o ?_
    refine Zge rfl ?_
    refine Ct.o ?_
    refine Zgb ?_
    first|refine Zhg (Zat rfl) ?_|refine Zhg (Zar rfl) ?_
    first|refine Zhg (Zmj (b := 3) rfl rfl) ?_|refine Zhg (Zbr rfl rfl) ?_
    refine Zhm 26 rfl (rfl) ?_
    first|refine Zhg (Zau rfl) ?_|refine Zhg (Zar rfl) ?_
    first|refine Zhi rfl ?_|refine Zhj rfl ?_|(refine Zhh rfl ?_; (first|refine Zhg (Zaw rfl) ?_|refine Zhg (Zar rfl) ?_))
    first|refine Zhi rfl ?_|refine Zhj rfl ?_|(refine Zhh rfl ?_; (first|refine Zhg (Zcr rfl) ?_|refine Zhg (Zct) ?_|refine Zhg (Zcu rfl) ?_))
    first|refine Zhi rfl ?_|refine Zhj rfl ?_|(refine Zhh rfl ?_; (first|refine Zhg (Zmj (b := 0) rfl rfl) ?_|refine Zhg (Zbr rfl rfl) ?_))
    refine Zhm 30 rfl (rfl) ?_
    first|refine Zhg (Zdz rfl rfl) ?_|refine Zhg (Zd0 rfl rfl) ?_|refine Zhg (Za8 rfl rfl) ?_|refine Zhg (Za9 rfl rfl) ?_|refine Zhg (Za6 rfl rfl) ?_|refine Zhg (Za7 rfl rfl) ?_
    first|refine Zhg (Zau rfl) ?_|refine Zhg (Zar rfl) ?_
    first|refine Zhi rfl ?_|refine Zhj rfl ?_|(refine Zhh rfl ?_; (refine Zh8 rfl (by kernel_rfl) (pgWorks_x) rfl qT ?_); (rintro _ _ ⟨rfl, rfl⟩); (refine Zg2 qA ?_))
    first|refine Zhg (Zdz rfl rfl) ?_|refine Zhg (Zd0 rfl rfl) ?_|refine Zhg (Za8 rfl rfl) ?_|refine Zhg (Za9 rfl rfl) ?_|refine Zhg (Za6 rfl rfl) ?_|refine Zhg (Za7 rfl rfl) ?_
    first|refine Zhg (Za0 rfl) ?_|refine Zhg (Zas rfl) ?_
    refine Zg3 ?_
    refine Ct.o ?_
    refine rx1 (Zha rfl (Zg7)) ?_
    exact ⟨_, ⟨rfl, rfl⟩, qI⟩
  · rw [pgSealR_ok key p text hlong] at hs
    have e2 := pg_back key p text (by omega)
    have e3 := pgHead_seal key p text
    have e4 := pgSealB_len key p text
    generalize pgSealB key p text = B at hs e2 e3 e4
    dsimp only at hs
    refine fn_x Try.func4 rfl rfl rfl Try.mixed (by kernel_rfl) ?_
    intro w0
    refine Ct.o ?_
    refine Zgb ?_
    refine Zh5 rfl ?_; intro b1
    first|refine Zhg (Za0 rfl) ?_|refine Zhg (Zas rfl) ?_
    refine Zg3 ?_
    refine Ct.o ?_
    refine Zij ([cl b1 ((shc key p (.slice ta text.length tc)).toArray) 36]) [3, 5, 6] (.q 0 (.q 2 (.q 4 (.r 1 (.r 3 (.r 5 (.e 6 true (.e 7 false (.q 8 (.q 9 (.q 10 (.q 11 (.q 12 .nil))))))))))))) (by kernel_rfl) (by kernel_rfl) (Imp.arr qV) ?_
    first|refine Zim rfl (Zl8 rfl) ?_|refine Zim rfl (Zce rfl) ?_
    first|refine Zim rfl (Zl8 rfl) ?_|refine Zim rfl (Zce rfl) ?_
    first|refine Zim rfl (Zl8 rfl) ?_|refine Zim rfl (Zce rfl) ?_
    refine Zix (n := 32) rfl rfl qH qZ (c0) ?_
    refine Zix (n := 4) rfl rfl qH qZ (c1) ?_
    refine Ziv rfl rfl qH (c2) ?_
    refine Ziq rfl ?_
    refine Zh8 rfl (by kernel_rfl) (copyBytes_x (L := L) hta (by omega)) rfl qT ?_
    rintro _ _ ⟨ca, cc, rfl, rfl⟩
    refine Zg2 qA ?_
    refine Zg3 ⟨fun _ => Imp.arr qV, ?_⟩
    refine Ziq rfl ?_
    refine Zh8 rfl (by kernel_rfl) (hs ca cc) rfl qT ?_
    rintro _ _ ⟨sa, sc, rfl, rfl⟩
    refine Zg2 qA ?_
    refine Zg3 ⟨(fun hh => Bool.noConfusion hh), ?_⟩
    first|refine Zim rfl (Zmm rfl) ?_|refine Zim rfl (Zar rfl) ?_
    refine Zim rfl (Zco rfl rfl) ?_
    refine Zim rfl (Zco rfl rfl) ?_
    first|refine Zim rfl (Za2 rfl) ?_|refine Zim rfl (Zas rfl) ?_
    first|refine Zim rfl (Zaz rfl) ?_|refine Zim rfl (Zas rfl) ?_
    refine Zik ?_
    refine Ct.o ?_
    refine Zgb ?_
    first|refine Zhg (Zl8 rfl) ?_|refine Zhg (Zce rfl) ?_
    refine Zhp rfl qH (c2) ?_
    first|refine Zhg (Zcr rfl) ?_|refine Zhg (Zct) ?_|refine Zhg (Zcu rfl) ?_
    first|refine Zhg (Zmh (b := 4096) rfl rfl) ?_|refine Zhg (Zbp rfl rfl) ?_
    refine Zhn 24 rfl (decide_eq_false (hlong)) ?_
    refine Zg3 ?_
    refine Ct.o ?_
    refine Zgf rfl ?_
    refine Ct.o ?_
    refine Zgb ?_
    first|refine Zhg (Zat rfl) ?_|refine Zhg (Zar rfl) ?_
    first|refine Zhg (Zmk (b := 0) rfl rfl) ?_|refine Zhg (Zbs rfl rfl) ?_
    refine Zhn 36 rfl (decide_eq_false ((fun h => h rfl))) ?_
    first|refine Zhg (Zau rfl) ?_|refine Zhg (Zar rfl) ?_
    first|refine Zhi rfl ?_|refine Zhj rfl ?_|(refine Zhh rfl ?_; (first|refine Zhg (Zaw rfl) ?_|refine Zhg (Zar rfl) ?_))
    first|refine Zhi rfl ?_|refine Zhj rfl ?_|(refine Zhh rfl ?_; (first|refine Zhg (Zcr rfl) ?_|refine Zhg (Zct) ?_|refine Zhg (Zcu rfl) ?_))
    first|refine Zhi rfl ?_|refine Zhj rfl ?_|(refine Zhh rfl ?_; (first|refine Zhg (Zl8 rfl) ?_|refine Zhg (Zce rfl) ?_))
    first|refine Zhi rfl ?_|refine Zhj rfl ?_|(refine Zhh rfl ?_; (refine Zhp rfl qH (c2) ?_))
    first|refine Zhi rfl ?_|refine Zhj rfl ?_|(refine Zhh rfl ?_; (first|refine Zhg (Zcr rfl) ?_|refine Zhg (Zct) ?_|refine Zhg (Zcu rfl) ?_))
    first|refine Zhi rfl ?_|refine Zhj rfl ?_|(refine Zhh rfl ?_; (first|refine Zhg (Zma (b := 28) rfl rfl) ?_|refine Zhg (Zbg rfl rfl) ?_))
    first|refine Zhi rfl ?_|refine Zhj rfl ?_|(refine Zhh rfl ?_; (first|refine Zhg (Zmk rfl rfl) ?_|refine Zhg (Zbs rfl rfl) ?_))
    refine Zhn 44 rfl (decide_eq_false ((fun h => h e4))) ?_
    first|refine Zhg (Zdz rfl rfl) ?_|refine Zhg (Zd0 rfl rfl) ?_|refine Zhg (Za8 rfl rfl) ?_|refine Zhg (Za9 rfl rfl) ?_|refine Zhg (Za6 rfl rfl) ?_|refine Zhg (Za7 rfl rfl) ?_
    refine Zg3 ?_
    refine Ct.o ?_
    refine Zgf rfl ?_
    refine Ct.o ?_
    have ho := fun a c => pgOpen_x (L := [own 5 1 (.slice a B.length c) B.length (B.map u8b)]) key hk p (Bs.own .here) (by omega)
    rw [e2] at ho
    dsimp only at ho
    refine Ct.o ?_
    refine Zij ([cl b1 ((shc key p (.slice ta text.length tc)).toArray) 36]) [3, 5] (.q 0 (.q 2 (.q 4 (.r 1 (.r 3 (.e 5 true (.e 6 false (.q 7 (.q 8 (.q 9 (.q 10 (.q 11 .nil)))))))))))) (by kernel_rfl) (by kernel_rfl) (Imp.arr qV) ?_
    first|refine Zim rfl (Zl8 rfl) ?_|refine Zim rfl (Zce rfl) ?_
    first|refine Zim rfl (Zl8 rfl) ?_|refine Zim rfl (Zce rfl) ?_
    first|refine Zim rfl (Zaw rfl) ?_|refine Zim rfl (Zar rfl) ?_
    refine Zix (n := 32) rfl rfl qH qZ (c0) ?_
    refine Zix (n := 4) rfl rfl qH qZ (c1) ?_
    refine Ziq rfl ?_
    refine Zh8 rfl (by kernel_rfl) (copyBytes_x (L := [own 5 1 (.slice sa B.length sc) B.length (B.map u8b)]) (Bs.own .here) (by omega)) rfl qT ?_
    rintro _ _ ⟨da, dc, rfl, rfl⟩
    refine Zg2 qA ?_
    refine Zg3 ⟨fun _ => Imp.arr qV, ?_⟩
    refine Ziq rfl ?_
    refine Zh8 rfl (by kernel_rfl) (ho da dc) rfl qT ?_
    rintro _ _ ⟨oa, oc, rfl, rfl⟩
    refine Zg2 qA ?_
    refine Zg3 ⟨(fun hh => Bool.noConfusion hh), ?_⟩
    first|refine Zim rfl (Zmm rfl) ?_|refine Zim rfl (Zar rfl) ?_
    refine Zim rfl (Zco rfl rfl) ?_
    refine Zim rfl (Zco rfl rfl) ?_
    first|refine Zim rfl (Za2 rfl) ?_|refine Zim rfl (Zas rfl) ?_
    first|refine Zim rfl (Zaz rfl) ?_|refine Zim rfl (Zas rfl) ?_
    refine Zik ?_
    refine Ct.o ?_
    have hh := pgHead_x (L := [own 5 1 (.slice sa B.length sc) B.length (B.map u8b)]) (Bs.own .here) (by omega)
    rw [e3] at hh
    dsimp only at hh
    refine Ct.o ?_
    refine Zgb ?_
    first|refine Zhg (Zaw rfl) ?_|refine Zhg (Zar rfl) ?_
    refine Zh8 rfl (by kernel_rfl) (hh) rfl qT ?_
    rintro _ _ ⟨rfl, rfl⟩
    refine Zg2 qA ?_
    first|refine Zhg (Zmm rfl) ?_|refine Zhg (Zar rfl) ?_
    refine Zhg (Zco rfl rfl) ?_
    refine Zhg (Zco rfl rfl) ?_
    refine Zhg (Zco rfl rfl) ?_
    first|refine Zhg (Zaz rfl) ?_|refine Zhg (Zas rfl) ?_
    first|refine Zhg (Zaz rfl) ?_|refine Zhg (Zas rfl) ?_
    first|refine Zhg (Zaz rfl) ?_|refine Zhg (Zas rfl) ?_
    refine Zg3 ?_
    refine Ct.o ?_
    refine Zgb ?_
    first|refine Zhg (Zat rfl) ?_|refine Zhg (Zar rfl) ?_
    first|refine Zhg (Zmj (b := 0) rfl rfl) ?_|refine Zhg (Zbr rfl rfl) ?_
    refine Zhm 63 rfl (rfl) ?_
    first|refine Zhg (Zau rfl) ?_|refine Zhg (Zar rfl) ?_
    first|refine Zhi rfl ?_|refine Zhj rfl ?_|(refine Zhh rfl ?_; (first|refine Zhg (Zaw rfl) ?_|refine Zhg (Zar rfl) ?_))
    first|refine Zhi rfl ?_|refine Zhj rfl ?_|(refine Zhh rfl ?_; (first|refine Zhg (Zl8 rfl) ?_|refine Zhg (Zce rfl) ?_))
    first|refine Zhi rfl ?_|refine Zhj rfl ?_|(refine Zhh rfl ?_; (refine Zhp rfl qH (c2) ?_))
    first|refine Zhi rfl ?_|refine Zhj rfl ?_|(refine Zhh rfl ?_; (refine Zh8 rfl (by kernel_rfl) (eqBytes_x (L := own 5 1 (.slice oa text.length oc) text.length (text.map u8b) :: L) (Bs.own .here) (hta.imp Imp.tail)) rfl qT ?_); (rintro _ _ ⟨rfl, rfl⟩); (refine Zg2 qA ?_))
    refine Zhm 68 rfl (decide_eq_true (rfl)) ?_
    first|refine Zhg (Zdz rfl rfl) ?_|refine Zhg (Zd0 rfl rfl) ?_|refine Zhg (Za8 rfl rfl) ?_|refine Zhg (Za9 rfl rfl) ?_|refine Zhg (Za6 rfl rfl) ?_|refine Zhg (Za7 rfl rfl) ?_
    first|refine Zhg (Zau rfl) ?_|refine Zhg (Zar rfl) ?_
    first|refine Zhi rfl ?_|refine Zhj rfl ?_|(refine Zhh rfl ?_; (first|refine Zhg (Zat rfl) ?_|refine Zhg (Zar rfl) ?_))
    first|refine Zhi rfl ?_|refine Zhj rfl ?_|(refine Zhh rfl ?_; (first|refine Zhg (Zmj (b := 0) rfl rfl) ?_|refine Zhg (Zbr rfl rfl) ?_))
    refine Zhm 72 rfl (rfl) ?_
    first|refine Zhg (Zdz rfl rfl) ?_|refine Zhg (Zd0 rfl rfl) ?_|refine Zhg (Za8 rfl rfl) ?_|refine Zhg (Za9 rfl rfl) ?_|refine Zhg (Za6 rfl rfl) ?_|refine Zhg (Za7 rfl rfl) ?_
    first|refine Zhg (Zau rfl) ?_|refine Zhg (Zar rfl) ?_
    first|refine Zhi rfl ?_|refine Zhj rfl ?_|(refine Zhh rfl ?_; (first|refine Zhg (Zat rfl) ?_|refine Zhg (Zar rfl) ?_))
    first|refine Zhi rfl ?_|refine Zhj rfl ?_|(refine Zhh rfl ?_; (first|refine Zhg (Zl8 rfl) ?_|refine Zhg (Zce rfl) ?_))
    first|refine Zhi rfl ?_|refine Zhj rfl ?_|(refine Zhh rfl ?_; (first|refine Zhg (Zl8 rfl) ?_|refine Zhg (Zce rfl) ?_))
    first|refine Zhi rfl ?_|refine Zhj rfl ?_|(refine Zhh rfl ?_; (refine Zhp rfl qH (c3) ?_))
    first|refine Zhi rfl ?_|refine Zhj rfl ?_|(refine Zhh rfl ?_; (refine Zhg (Zln (x := p.round) (y := p.round) rfl rfl) ?_))
    refine Zhm 79 rfl (decide_eq_true (rfl)) ?_
    first|refine Zhg (Zdz rfl rfl) ?_|refine Zhg (Zd0 rfl rfl) ?_|refine Zhg (Za8 rfl rfl) ?_|refine Zhg (Za9 rfl rfl) ?_|refine Zhg (Za6 rfl rfl) ?_|refine Zhg (Za7 rfl rfl) ?_
    first|refine Zhg (Zau rfl) ?_|refine Zhg (Zar rfl) ?_
    first|refine Zhi rfl ?_|refine Zhj rfl ?_|(refine Zhh rfl ?_; (first|refine Zhg (Zat rfl) ?_|refine Zhg (Zar rfl) ?_))
    first|refine Zhi rfl ?_|refine Zhj rfl ?_|(refine Zhh rfl ?_; (first|refine Zhg (Zl8 rfl) ?_|refine Zhg (Zce rfl) ?_))
    first|refine Zhi rfl ?_|refine Zhj rfl ?_|(refine Zhh rfl ?_; (first|refine Zhg (Zl8 rfl) ?_|refine Zhg (Zce rfl) ?_))
    first|refine Zhi rfl ?_|refine Zhj rfl ?_|(refine Zhh rfl ?_; (refine Zhp rfl qH (c4) ?_))
    first|refine Zhi rfl ?_|refine Zhj rfl ?_|(refine Zhh rfl ?_; (refine Zhg (Zky (x := p.counter) (y := p.counter) rfl rfl) ?_))
    refine Zhm 86 rfl (decide_eq_true (rfl)) ?_
    first|refine Zhg (Zdz rfl rfl) ?_|refine Zhg (Zd0 rfl rfl) ?_|refine Zhg (Za8 rfl rfl) ?_|refine Zhg (Za9 rfl rfl) ?_|refine Zhg (Za6 rfl rfl) ?_|refine Zhg (Za7 rfl rfl) ?_
    first|refine Zhg (Za0 rfl) ?_|refine Zhg (Zas rfl) ?_
    refine Zg3 ?_
    refine Ct.o ?_
    refine rx1 (Zha rfl (Zg7)) ?_
    exact ⟨_, ⟨rfl, rfl⟩, qI⟩
theorem form_g {L : List Asrt} (key : List Byte) (hk : key.length = 32) (p : Plc) {vt : Value} {box : List Byte} (hta : Bs L vt box) (htl : box.length ≤ 140737488351232) :
    Con Try.prog 5 [.agg (shc key p vt).toArray] L (fun r M => r = .bool true ∧ L = M) := by
  refine Con.get (fun w0 w F H => hta.sh _ _ _ H) ?_
  rintro ⟨ta, tc, rfl, htc1, htc2⟩
  have hlen := shc_len (p := p) (v := .slice ta box.length tc) hk
  have c0 := shc_key (p := p) (v := .slice ta box.length tc) hk
  have c1 := shc_place (p := p) (v := .slice ta box.length tc) hk
  have c2 := shc_b (p := p) (v := .slice ta box.length tc) hk
  have ho := fun a c => pgOpen_x (L := [own 5 1 (.slice a box.length c) box.length (box.map u8b)]) key hk p (Bs.own .here) htl
  by_cases hop : pgOpens key p box
  · obtain ⟨f1, f2⟩ := pg_form key p box hop
    have hT := pgOpenR_len key p box
    rw [pgOpenR_yes key p box hop] at ho
    generalize (pgOpenR key p box).1 = T at ho f1 f2 hT
    dsimp only at ho
    have hs := fun a c => pgSeal_x (L := [own 5 1 (.slice a T.length c) T.length (T.map u8b)]) key hk p (Bs.own .here) (by omega)
    rw [pgSealR_ok key p T (by omega), f1] at hs
    dsimp only at hs
    refine fn_x Try.func5 rfl rfl rfl Try.mixed (by kernel_rfl) ?_
    intro w0
    refine Ct.o ?_
    refine Zgb ?_
    refine Zh5 rfl ?_; intro b1
    first|refine Zhg (Za0 rfl) ?_|refine Zhg (Zas rfl) ?_
    refine Zg3 ?_
    refine Ct.o ?_
    refine Zij ([cl b1 ((shc key p (.slice ta box.length tc)).toArray) 36]) [3, 5, 6] (.q 0 (.q 2 (.q 4 (.r 1 (.r 3 (.r 5 (.e 6 true (.e 7 false (.q 8 (.q 9 (.q 10 (.q 11 (.q 12 .nil))))))))))))) (by kernel_rfl) (by kernel_rfl) (Imp.arr qV) ?_
    first|refine Zim rfl (Zl8 rfl) ?_|refine Zim rfl (Zce rfl) ?_
    first|refine Zim rfl (Zl8 rfl) ?_|refine Zim rfl (Zce rfl) ?_
    first|refine Zim rfl (Zl8 rfl) ?_|refine Zim rfl (Zce rfl) ?_
    refine Zix (n := 32) rfl rfl qH qZ (c0) ?_
    refine Zix (n := 4) rfl rfl qH qZ (c1) ?_
    refine Ziv rfl rfl qH (c2) ?_
    refine Ziq rfl ?_
    refine Zh8 rfl (by kernel_rfl) (copyBytes_x (L := L) hta (by omega)) rfl qT ?_
    rintro _ _ ⟨ca, cc, rfl, rfl⟩
    refine Zg2 qA ?_
    refine Zg3 ⟨fun _ => Imp.arr qV, ?_⟩
    refine Ziq rfl ?_
    refine Zh8 rfl (by kernel_rfl) (ho ca cc) rfl qT ?_
    rintro _ _ ⟨sa, sc, rfl, rfl⟩
    refine Zg2 qA ?_
    refine Zg3 ⟨(fun hh => Bool.noConfusion hh), ?_⟩
    first|refine Zim rfl (Zmm rfl) ?_|refine Zim rfl (Zar rfl) ?_
    refine Zim rfl (Zco rfl rfl) ?_
    refine Zim rfl (Zco rfl rfl) ?_
    first|refine Zim rfl (Za2 rfl) ?_|refine Zim rfl (Zas rfl) ?_
    first|refine Zim rfl (Zaz rfl) ?_|refine Zim rfl (Zas rfl) ?_
    refine Zik ?_
    refine Ct.o ?_
    refine Zgb ?_
    first|refine Zhg (Zat rfl) ?_|refine Zhg (Zar rfl) ?_
    first|refine Zhg (Zmk (b := 0) rfl rfl) ?_|refine Zhg (Zbs rfl rfl) ?_
    refine Zhn 19 rfl (decide_eq_false ((fun h => h rfl))) ?_
    refine Zg3 ?_
    refine Ct.o ?_
    refine Zgf rfl ?_
    refine Ct.o ?_
    refine Zgb ?_
    first|refine Zhg (Zl8 rfl) ?_|refine Zhg (Zce rfl) ?_
    refine Zhq (n := 32) rfl qH qZ (c0) ?_
    first|refine Zhg (Zl8 rfl) ?_|refine Zhg (Zce rfl) ?_
    refine Zhq (n := 4) rfl qH qZ (c1) ?_
    first|refine Zhg (Zaw rfl) ?_|refine Zhg (Zar rfl) ?_
    refine Zh8 rfl (by kernel_rfl) (hs sa sc) rfl qT ?_
    rintro _ _ ⟨ua, uc, rfl, rfl⟩
    refine Zg2 qA ?_
    first|refine Zhg (Zmm rfl) ?_|refine Zhg (Zar rfl) ?_
    refine Zhg (Zco rfl rfl) ?_
    refine Zhg (Zco rfl rfl) ?_
    first|refine Zhg (Za2 rfl) ?_|refine Zhg (Zas rfl) ?_
    first|refine Zhg (Zaz rfl) ?_|refine Zhg (Zas rfl) ?_
    refine Zg3 ?_
    refine Ct.o ?_
    refine Zgb ?_
    first|refine Zhg (Zat rfl) ?_|refine Zhg (Zar rfl) ?_
    first|refine Zhg (Zmj (b := 0) rfl rfl) ?_|refine Zhg (Zbr rfl rfl) ?_
    refine Zhm 40 rfl (rfl) ?_
    first|refine Zhg (Zau rfl) ?_|refine Zhg (Zar rfl) ?_
    first|refine Zhi rfl ?_|refine Zhj rfl ?_|(refine Zhh rfl ?_; (first|refine Zhg (Zaw rfl) ?_|refine Zhg (Zar rfl) ?_))
    first|refine Zhi rfl ?_|refine Zhj rfl ?_|(refine Zhh rfl ?_; (first|refine Zhg (Zl8 rfl) ?_|refine Zhg (Zce rfl) ?_))
    first|refine Zhi rfl ?_|refine Zhj rfl ?_|(refine Zhh rfl ?_; (refine Zhp rfl qH (c2) ?_))
    first|refine Zhi rfl ?_|refine Zhj rfl ?_|(refine Zhh rfl ?_; (refine Zh8 rfl (by kernel_rfl) (eqBytes_x (L := own 5 1 (.slice ua box.length uc) box.length (box.map u8b) :: L) (Bs.own .here) (hta.imp Imp.tail)) rfl qT ?_); (rintro _ _ ⟨rfl, rfl⟩); (refine Zg2 qA ?_))
    refine Zhm 45 rfl (decide_eq_true (rfl)) ?_
    first|refine Zhg (Zdz rfl rfl) ?_|refine Zhg (Zd0 rfl rfl) ?_|refine Zhg (Za8 rfl rfl) ?_|refine Zhg (Za9 rfl rfl) ?_|refine Zhg (Za6 rfl rfl) ?_|refine Zhg (Za7 rfl rfl) ?_
    first|refine Zhg (Zau rfl) ?_|refine Zhg (Zar rfl) ?_
    first|refine Zhi rfl ?_|refine Zhj rfl ?_|(refine Zhh rfl ?_; (refine Zh8 rfl (by kernel_rfl) (pgWorks_x) rfl qT ?_); (rintro _ _ ⟨rfl, rfl⟩); (refine Zg2 qA ?_))
    first|refine Zhg (Zdz rfl rfl) ?_|refine Zhg (Zd0 rfl rfl) ?_|refine Zhg (Za8 rfl rfl) ?_|refine Zhg (Za9 rfl rfl) ?_|refine Zhg (Za6 rfl rfl) ?_|refine Zhg (Za7 rfl rfl) ?_
    first|refine Zhg (Za0 rfl) ?_|refine Zhg (Zas rfl) ?_
    refine Zg3 ?_
    refine Ct.o ?_
    refine rx1 (Zha rfl (Zg7)) ?_
    exact ⟨_, ⟨rfl, rfl⟩, qI⟩
  · rw [pgOpenR_not key p box hop] at ho
    dsimp only at ho
    refine fn_x Try.func5 rfl rfl rfl Try.mixed (by kernel_rfl) ?_
    intro w0
    refine Ct.o ?_
    refine Zgb ?_
    refine Zh5 rfl ?_; intro b1
    first|refine Zhg (Za0 rfl) ?_|refine Zhg (Zas rfl) ?_
    refine Zg3 ?_
    refine Ct.o ?_
    refine Zij ([cl b1 ((shc key p (.slice ta box.length tc)).toArray) 36]) [3, 5, 6] (.q 0 (.q 2 (.q 4 (.r 1 (.r 3 (.r 5 (.e 6 true (.e 7 false (.q 8 (.q 9 (.q 10 (.q 11 (.q 12 .nil))))))))))))) (by kernel_rfl) (by kernel_rfl) (Imp.arr qV) ?_
    first|refine Zim rfl (Zl8 rfl) ?_|refine Zim rfl (Zce rfl) ?_
    first|refine Zim rfl (Zl8 rfl) ?_|refine Zim rfl (Zce rfl) ?_
    first|refine Zim rfl (Zl8 rfl) ?_|refine Zim rfl (Zce rfl) ?_
    refine Zix (n := 32) rfl rfl qH qZ (c0) ?_
    refine Zix (n := 4) rfl rfl qH qZ (c1) ?_
    refine Ziv rfl rfl qH (c2) ?_
    refine Ziq rfl ?_
    refine Zh8 rfl (by kernel_rfl) (copyBytes_x (L := L) hta (by omega)) rfl qT ?_
    rintro _ _ ⟨ca, cc, rfl, rfl⟩
    refine Zg2 qA ?_
    refine Zg3 ⟨fun _ => Imp.arr qV, ?_⟩
    refine Ziq rfl ?_
    refine Zh8 rfl (by kernel_rfl) (ho ca cc) rfl qT ?_
    rintro _ _ ⟨sa, sc, rfl, rfl⟩
    refine Zg2 qA ?_
    refine Zg3 ⟨(fun hh => Bool.noConfusion hh), ?_⟩
    first|refine Zim rfl (Zmm rfl) ?_|refine Zim rfl (Zar rfl) ?_
    refine Zim rfl (Zco rfl rfl) ?_
    refine Zim rfl (Zco rfl rfl) ?_
    first|refine Zim rfl (Za2 rfl) ?_|refine Zim rfl (Zas rfl) ?_
    first|refine Zim rfl (Zaz rfl) ?_|refine Zim rfl (Zas rfl) ?_
    refine Zik ?_
    refine Ct.o ?_
    refine Zgb ?_
    first|refine Zhg (Zat rfl) ?_|refine Zhg (Zar rfl) ?_
    first|refine Zhg (Zmk (b := 0) rfl rfl) ?_|refine Zhg (Zbs rfl rfl) ?_
    refine Zhm 19 rfl (decide_eq_true ((by decide))) ?_
    refine Zg3 ?_
    refine Ct.o ?_
    refine Zge rfl ?_
    refine Ct.o ?_
    refine Zgb ?_
    first|refine Zhg (Zat rfl) ?_|refine Zhg (Zar rfl) ?_
    first|refine Zhg (Zmj (b := 120) rfl rfl) ?_|refine Zhg (Zbr rfl rfl) ?_
    refine Zhm 21 rfl (rfl) ?_
    first|refine Zhg (Zau rfl) ?_|refine Zhg (Zar rfl) ?_
    first|refine Zhi rfl ?_|refine Zhj rfl ?_|(refine Zhh rfl ?_; (first|refine Zhg (Zaw rfl) ?_|refine Zhg (Zar rfl) ?_))
    first|refine Zhi rfl ?_|refine Zhj rfl ?_|(refine Zhh rfl ?_; (first|refine Zhg (Zcr rfl) ?_|refine Zhg (Zct) ?_|refine Zhg (Zcu rfl) ?_))
    first|refine Zhi rfl ?_|refine Zhj rfl ?_|(refine Zhh rfl ?_; (first|refine Zhg (Zmj (b := 0) rfl rfl) ?_|refine Zhg (Zbr rfl rfl) ?_))
    refine Zhm 25 rfl (rfl) ?_
    first|refine Zhg (Zdz rfl rfl) ?_|refine Zhg (Zd0 rfl rfl) ?_|refine Zhg (Za8 rfl rfl) ?_|refine Zhg (Za9 rfl rfl) ?_|refine Zhg (Za6 rfl rfl) ?_|refine Zhg (Za7 rfl rfl) ?_
    first|refine Zhg (Zau rfl) ?_|refine Zhg (Zar rfl) ?_
    first|refine Zhi rfl ?_|refine Zhj rfl ?_|(refine Zhh rfl ?_; (refine Zh8 rfl (by kernel_rfl) (pgWorks_x) rfl qT ?_); (rintro _ _ ⟨rfl, rfl⟩); (refine Zg2 qA ?_))
    first|refine Zhg (Zdz rfl rfl) ?_|refine Zhg (Zd0 rfl rfl) ?_|refine Zhg (Za8 rfl rfl) ?_|refine Zhg (Za9 rfl rfl) ?_|refine Zhg (Za6 rfl rfl) ?_|refine Zhg (Za7 rfl rfl) ?_
    first|refine Zhg (Za0 rfl) ?_|refine Zhg (Zas rfl) ?_
    refine Zg3 ?_
    refine Ct.o ?_
    refine rx1 (Zha rfl (Zg7)) ?_
    exact ⟨_, ⟨rfl, rfl⟩, qI⟩
end Go.Sl

/- trystlaw12: PageElsewhere, walked. -/
set_option maxHeartbeats 4000000
set_option maxRecDepth 10000
set_option linter.unusedVariables false
set_option linter.unusedSimpArgs false
namespace Go.Sl
open Go Go.Proofs
attribute [local irreducible] cl pt own old pur ex all den denOps denS xOps xC cX CX xthen xblk xcut xloop xgo xng retX resX Calls PV Rd Con
attribute [local irreducible] pgSealB pgOpenR pgHeadR pgSealR pgOpens
theorem head_inj (a b : Plc) : headB a = headB b ↔ b.round = a.round ∧ b.counter = a.counter := by
  constructor
  · intro h
    unfold headB at h
    have h2 := List.append_inj h (by rw [leB_len, leB_len])
    have e1 := congrArg (lowB 64) h2.1
    have e2 := congrArg (lowB 32) h2.2
    rw [low_le (n := 8) _ rfl, low_le (n := 8) _ rfl] at e1
    rw [low_le (n := 4) _ rfl, low_le (n := 4) _ rfl] at e2
    exact ⟨e1.symm, e2.symm⟩
  · rintro ⟨h1, h2⟩
    unfold headB; rw [h1, h2]
theorem else_g {L : List Asrt} (key : List Byte) (hk : key.length = 32) (p q : Plc) {vt : Value} {text : List Byte} (hta : Bs L vt text) (htl : text.length ≤ 140737488351232) :
    Con Try.prog 6 [.agg (shc key p vt).toArray, .agg (plc q)] L (fun r M => r = .bool true ∧ L = M) := by
  refine Con.get (fun w0 w F H => hta.sh _ _ _ H) ?_
  rintro ⟨ta, tc, rfl, htc1, htc2⟩
  have hlen := shc_len (p := p) (v := .slice ta text.length tc) hk
  have c0 := shc_key (p := p) (v := .slice ta text.length tc) hk
  have c1 := shc_place (p := p) (v := .slice ta text.length tc) hk
  have c2 := shc_b (p := p) (v := .slice ta text.length tc) hk
  have c3 := shc_round (p := p) (v := .slice ta text.length tc) hk
  have c4 := shc_counter (p := p) (v := .slice ta text.length tc) hk
  by_cases hlong : 4096 < text.length
  · refine fn_x Try.func6 rfl rfl rfl Try.mixed (by kernel_rfl) ?_
    intro w0
    refine Ct.o ?_
    refine Zgb ?_
    refine Zh5 rfl ?_; intro b2
    refine Zh5 rfl ?_; intro b3
    first|refine Zhg (Za0 rfl) ?_|refine Zhg (Zas rfl) ?_
    refine Zg3 ?_
    refine Ct.o ?_
    refine Zgb ?_
    refine Zh8 rfl (by kernel_rfl) (pgWorks_x) rfl qT ?_
    rintro _ _ ⟨rfl, rfl⟩
    refine Zg2 qA ?_
    refine Zhg (Zb0 rfl) ?_
    refine Zhn 13 rfl (rfl) ?_
    first|refine Zhg (Zau rfl) ?_|refine Zhg (Zar rfl) ?_
    first|refine Zhi rfl ?_|refine Zhj rfl ?_|(refine Zhh rfl ?_; (first|refine Zhg (Zl8 rfl) ?_|refine Zhg (Zce rfl) ?_))
    first|refine Zhi rfl ?_|refine Zhj rfl ?_|(refine Zhh rfl ?_; (refine Zhp rfl qH (c2) ?_))
    first|refine Zhi rfl ?_|refine Zhj rfl ?_|(refine Zhh rfl ?_; (first|refine Zhg (Zcr rfl) ?_|refine Zhg (Zct) ?_|refine Zhg (Zcu rfl) ?_))
    first|refine Zhi rfl ?_|refine Zhj rfl ?_|(refine Zhh rfl ?_; (first|refine Zhg (Zmh (b := 4096) rfl rfl) ?_|refine Zhg (Zbp rfl rfl) ?_))
    refine Zhm 18 rfl (decide_eq_true (hlong)) ?_
    first|refine Zhg (Zdz rfl rfl) ?_|refine Zhg (Zd0 rfl rfl) ?_|refine Zhg (Za8 rfl rfl) ?_|refine Zhg (Za9 rfl rfl) ?_|refine Zhg (Za6 rfl rfl) ?_|refine Zhg (Za7 rfl rfl) ?_
    refine Zg3 ?_
    refine Ct.o ?_
    refine Zge rfl ?_
    refine Ct.o ?_
    refine Zgb ?_
    refine Zh8 rfl (by kernel_rfl) (pgWorks_x) rfl qT ?_
    rintro _ _ ⟨rfl, rfl⟩
    refine Zg2 qA ?_
    first|refine Zhg (Za0 rfl) ?_|refine Zhg (Zas rfl) ?_
    refine Zg3 ?_
    refine Ct.o ?_
    refine rx1 (Zha rfl (Zg7)) ?_
    exact ⟨_, ⟨rfl, rfl⟩, qI⟩
  have hs := fun a c => pgSeal_x (L := [own 5 1 (.slice a text.length c) text.length (text.map u8b)]) key hk p (Bs.own .here) htl
  have hs2 := fun a c => pgSeal_x (L := [own 5 1 (.slice a text.length c) text.length (text.map u8b)]) key hk q (Bs.own .here) htl
  rw [pgSealR_ok key p text hlong] at hs
  rw [pgSealR_ok key q text hlong] at hs2
  have a4 := pgSealB_len key p text
  have b4 := pgSealB_len key q text
  have ah := pgSeal_head key p text
  have bh := pgSeal_head key q text
  generalize pgSealB key p text = A at hs a4 ah
  generalize pgSealB key q text = B at hs2 b4 bh
  dsimp only at hs hs2
  have ho := fun a c => pgOpen_x (L := [own 5 1 (.slice a A.length c) A.length (A.map u8b)]) key hk q (Bs.own .here) (by omega)
  refine fn_x Try.func6 rfl rfl rfl Try.mixed (by kernel_rfl) ?_
  intro w0
  refine Ct.o ?_
  refine Zgb ?_
  refine Zh5 rfl ?_; intro b2
  refine Zh5 rfl ?_; intro b3
  first|refine Zhg (Za0 rfl) ?_|refine Zhg (Zas rfl) ?_
  refine Zg3 ?_
  refine Ct.o ?_
  refine Zgb ?_
  refine Zh8 rfl (by kernel_rfl) (pgWorks_x) rfl qT ?_
  rintro _ _ ⟨rfl, rfl⟩
  refine Zg2 qA ?_
  refine Zhg (Zb0 rfl) ?_
  refine Zhn 13 rfl (rfl) ?_
  first|refine Zhg (Zau rfl) ?_|refine Zhg (Zar rfl) ?_
  first|refine Zhi rfl ?_|refine Zhj rfl ?_|(refine Zhh rfl ?_; (first|refine Zhg (Zl8 rfl) ?_|refine Zhg (Zce rfl) ?_))
  first|refine Zhi rfl ?_|refine Zhj rfl ?_|(refine Zhh rfl ?_; (refine Zhp rfl qH (c2) ?_))
  first|refine Zhi rfl ?_|refine Zhj rfl ?_|(refine Zhh rfl ?_; (first|refine Zhg (Zcr rfl) ?_|refine Zhg (Zct) ?_|refine Zhg (Zcu rfl) ?_))
  first|refine Zhi rfl ?_|refine Zhj rfl ?_|(refine Zhh rfl ?_; (first|refine Zhg (Zmh (b := 4096) rfl rfl) ?_|refine Zhg (Zbp rfl rfl) ?_))
  refine Zhn 18 rfl (decide_eq_false (hlong)) ?_
  first|refine Zhg (Zdz rfl rfl) ?_|refine Zhg (Zd0 rfl rfl) ?_|refine Zhg (Za8 rfl rfl) ?_|refine Zhg (Za9 rfl rfl) ?_|refine Zhg (Za6 rfl rfl) ?_|refine Zhg (Za7 rfl rfl) ?_
  refine Zg3 ?_
  refine Ct.o ?_
  refine Zgf rfl ?_
  refine Ct.o ?_
  refine Zij ([cl b2 ((shc key p (.slice ta text.length tc)).toArray) 36]) [3, 5, 6] (.q 0 (.q 2 (.q 4 (.r 1 (.r 3 (.r 5 (.e 6 true (.e 7 false (.q 8 (.q 9 (.q 10 (.q 11 (.q 12 .nil))))))))))))) (by kernel_rfl) (by kernel_rfl) (Imp.arr qV) ?_
  first|refine Zim rfl (Zl8 rfl) ?_|refine Zim rfl (Zce rfl) ?_
  first|refine Zim rfl (Zl8 rfl) ?_|refine Zim rfl (Zce rfl) ?_
  first|refine Zim rfl (Zl8 rfl) ?_|refine Zim rfl (Zce rfl) ?_
  refine Zix (n := 32) rfl rfl qH qZ (c0) ?_
  refine Zix (n := 4) rfl rfl qH qZ (c1) ?_
  refine Ziv rfl rfl qH (c2) ?_
  refine Ziq rfl ?_
  refine Zh8 rfl (by kernel_rfl) (copyBytes_x (L := L) hta (by omega)) rfl qT ?_
  rintro _ _ ⟨ca, cc, rfl, rfl⟩
  refine Zg2 qA ?_
  refine Zg3 ⟨fun _ => Imp.arr qV, ?_⟩
  refine Ziq rfl ?_
  refine Zh8 rfl (by kernel_rfl) (hs ca cc) rfl qT ?_
  rintro _ _ ⟨sa, sc, rfl, rfl⟩
  refine Zg2 qA ?_
  refine Zg3 ⟨(fun hh => Bool.noConfusion hh), ?_⟩
  first|refine Zim rfl (Zmm rfl) ?_|refine Zim rfl (Zar rfl) ?_
  refine Zim rfl (Zco rfl rfl) ?_
  refine Zim rfl (Zco rfl rfl) ?_
  first|refine Zim rfl (Za2 rfl) ?_|refine Zim rfl (Zas rfl) ?_
  first|refine Zim rfl (Zaz rfl) ?_|refine Zim rfl (Zas rfl) ?_
  refine Zik ?_
  refine Ct.o ?_
  refine Zij ([cl b2 ((shc key p (.slice ta text.length tc)).toArray) 36, cl b3 (plc q) 31]) [2, 4, 5] (.q 0 (.q 3 (.r 1 (.r 2 (.r 4 (.e 5 true (.e 6 false (.q 7 (.q 8 (.q 9 (.q 10 (.q 11 .nil)))))))))))) (by kernel_rfl) (by kernel_rfl) (Imp.arr qV) ?_
  first|refine Zim rfl (Zl8 rfl) ?_|refine Zim rfl (Zce rfl) ?_
  first|refine Zim rfl (Zl8 rfl) ?_|refine Zim rfl (Zce rfl) ?_
  refine Zix (n := 32) rfl rfl qH qZ (c0) ?_
  first|refine Ziy rfl rfl qH qZ ?_|refine Zix rfl rfl qH qZ rfl ?_
  refine Ziv rfl rfl qH (c2) ?_
  refine Ziq rfl ?_
  refine Zh8 rfl (by kernel_rfl) (copyBytes_x (L := L) hta (by omega)) rfl qT ?_
  rintro _ _ ⟨ca2, cc2, rfl, rfl⟩
  refine Zg2 qA ?_
  refine Zg3 ⟨fun _ => Imp.arr qV, ?_⟩
  refine Ziq rfl ?_
  refine Zh8 rfl (by kernel_rfl) (hs2 ca2 cc2) rfl qT ?_
  rintro _ _ ⟨ua, uc, rfl, rfl⟩
  refine Zg2 qA ?_
  refine Zg3 ⟨(fun hh => Bool.noConfusion hh), ?_⟩
  first|refine Zim rfl (Zmm rfl) ?_|refine Zim rfl (Zar rfl) ?_
  refine Zim rfl (Zco rfl rfl) ?_
  refine Zim rfl (Zco rfl rfl) ?_
  first|refine Zim rfl (Za2 rfl) ?_|refine Zim rfl (Zas rfl) ?_
  first|refine Zim rfl (Zaz rfl) ?_|refine Zim rfl (Zas rfl) ?_
  refine Zik ?_
  refine Ct.o ?_
  refine Zgt (fun F w H => own_some (n := A.length) (a := sa) qH (by omega) H) ?_
  rintro ⟨ga, rfl⟩
  refine Zgt (fun F w H => own_some (n := B.length) (a := ua) qH (by omega) H) ?_
  rintro ⟨gb, rfl⟩
  refine Zgt (fun F w H => own_cap (n := A.length) (c := sc) qH H) ?_
  rintro ⟨hsc, _⟩
  refine Zgt (fun F w H => own_cap (n := B.length) (c := uc) qH H) ?_
  rintro ⟨huc, _⟩
  refine Ct.o ?_
  refine Zgb ?_
  first|refine Zhg (Zat rfl) ?_|refine Zhg (Zar rfl) ?_
  first|refine Zhg (Zmk (b := 0) rfl rfl) ?_|refine Zhg (Zbs rfl rfl) ?_
  refine Zhn 43 rfl (decide_eq_false ((fun h => h rfl))) ?_
  first|refine Zhg (Zau rfl) ?_|refine Zhg (Zar rfl) ?_
  first|refine Zhi rfl ?_|refine Zhj rfl ?_|(refine Zhh rfl ?_; (first|refine Zhg (Zat rfl) ?_|refine Zhg (Zar rfl) ?_))
  first|refine Zhi rfl ?_|refine Zhj rfl ?_|(refine Zhh rfl ?_; (first|refine Zhg (Zmk (b := 0) rfl rfl) ?_|refine Zhg (Zbs rfl rfl) ?_))
  refine Zhn 46 rfl (decide_eq_false ((fun h => h rfl))) ?_
  first|refine Zhg (Zdz rfl rfl) ?_|refine Zhg (Zd0 rfl rfl) ?_|refine Zhg (Za8 rfl rfl) ?_|refine Zhg (Za9 rfl rfl) ?_|refine Zhg (Za6 rfl rfl) ?_|refine Zhg (Za7 rfl rfl) ?_
  first|refine Zhg (Zau rfl) ?_|refine Zhg (Zar rfl) ?_
  first|refine Zhi rfl ?_|refine Zhj rfl ?_|(refine Zhh rfl ?_; (first|refine Zhg (Zaw rfl) ?_|refine Zhg (Zar rfl) ?_))
  first|refine Zhi rfl ?_|refine Zhj rfl ?_|(refine Zhh rfl ?_; (first|refine Zhg (Zcr rfl) ?_|refine Zhg (Zct) ?_|refine Zhg (Zcu rfl) ?_))
  first|refine Zhi rfl ?_|refine Zhj rfl ?_|(refine Zhh rfl ?_; (first|refine Zhg (Zmf (b := 28) rfl rfl) ?_|refine Zhg (Zbn rfl rfl) ?_))
  refine Zhn 51 rfl (decide_eq_false (by omega)) ?_
  first|refine Zhg (Zdz rfl rfl) ?_|refine Zhg (Zd0 rfl rfl) ?_|refine Zhg (Za8 rfl rfl) ?_|refine Zhg (Za9 rfl rfl) ?_|refine Zhg (Za6 rfl rfl) ?_|refine Zhg (Za7 rfl rfl) ?_
  first|refine Zhg (Zau rfl) ?_|refine Zhg (Zar rfl) ?_
  first|refine Zhi rfl ?_|refine Zhj rfl ?_|(refine Zhh rfl ?_; (first|refine Zhg (Zaw rfl) ?_|refine Zhg (Zar rfl) ?_))
  first|refine Zhi rfl ?_|refine Zhj rfl ?_|(refine Zhh rfl ?_; (first|refine Zhg (Zcr rfl) ?_|refine Zhg (Zct) ?_|refine Zhg (Zcu rfl) ?_))
  first|refine Zhi rfl ?_|refine Zhj rfl ?_|(refine Zhh rfl ?_; (first|refine Zhg (Zmf (b := 28) rfl rfl) ?_|refine Zhg (Zbn rfl rfl) ?_))
  refine Zhn 56 rfl (decide_eq_false (by omega)) ?_
  first|refine Zhg (Zdz rfl rfl) ?_|refine Zhg (Zd0 rfl rfl) ?_|refine Zhg (Za8 rfl rfl) ?_|refine Zhg (Za9 rfl rfl) ?_|refine Zhg (Za6 rfl rfl) ?_|refine Zhg (Za7 rfl rfl) ?_
  refine Zg3 ?_
  refine Ct.o ?_
  refine Zgf rfl ?_
  refine Ct.o ?_
  by_cases hr : q.round = p.round
  · by_cases hc : q.counter = p.counter
    · have heq : A.take 12 = B.take 12 := by rw [ah, bh]; exact (head_inj p q).2 ⟨hr, hc⟩
      generalize pgOpenR key q A = R at ho
      obtain ⟨T, e⟩ := R
      dsimp only at ho
      refine Ct.o ?_
      refine Zgb ?_
      first|refine Zhg (Zl8 rfl) ?_|refine Zhg (Zce rfl) ?_
      refine Zhp rfl qH rfl ?_
      first|refine Zhg (Zl8 rfl) ?_|refine Zhg (Zce rfl) ?_
      first|refine Zhg (Zl8 rfl) ?_|refine Zhg (Zce rfl) ?_
      refine Zhp rfl qH (c3) ?_
      refine Zhg (Zln (x := q.round) (y := p.round) rfl rfl) ?_
      refine Zhm 63 rfl (decide_eq_true (hr)) ?_
      first|refine Zhg (Zau rfl) ?_|refine Zhg (Zar rfl) ?_
      first|refine Zhi rfl ?_|refine Zhj rfl ?_|(refine Zhh rfl ?_; (first|refine Zhg (Zl8 rfl) ?_|refine Zhg (Zce rfl) ?_))
      first|refine Zhi rfl ?_|refine Zhj rfl ?_|(refine Zhh rfl ?_; (refine Zhp rfl qH rfl ?_))
      first|refine Zhi rfl ?_|refine Zhj rfl ?_|(refine Zhh rfl ?_; (first|refine Zhg (Zl8 rfl) ?_|refine Zhg (Zce rfl) ?_))
      first|refine Zhi rfl ?_|refine Zhj rfl ?_|(refine Zhh rfl ?_; (first|refine Zhg (Zl8 rfl) ?_|refine Zhg (Zce rfl) ?_))
      first|refine Zhi rfl ?_|refine Zhj rfl ?_|(refine Zhh rfl ?_; (refine Zhp rfl qH (c4) ?_))
      first|refine Zhi rfl ?_|refine Zhj rfl ?_|(refine Zhh rfl ?_; (refine Zhg (Zky (x := q.counter) (y := p.counter) rfl rfl) ?_))
      refine Zhm 70 rfl (decide_eq_true (hc)) ?_
      first|refine Zhg (Zdz rfl rfl) ?_|refine Zhg (Zd0 rfl rfl) ?_|refine Zhg (Za8 rfl rfl) ?_|refine Zhg (Za9 rfl rfl) ?_|refine Zhg (Za6 rfl rfl) ?_|refine Zhg (Za7 rfl rfl) ?_
      first|refine Zhg (Za0 rfl) ?_|refine Zhg (Zas rfl) ?_
      refine Zg3 ?_
      refine Ct.o ?_
      refine Zij ([cl b2 ((shc key p (.slice ta text.length tc)).toArray) 36, cl b3 (plc q) 31]) [2, 4] (.q 0 (.q 3 (.r 1 (.r 2 (.e 4 true (.e 5 false (.q 6 (.q 7 (.q 8 (.q 9 (.q 10 .nil))))))))))) (by kernel_rfl) (by kernel_rfl) (Imp.arr qV) ?_
      first|refine Zim rfl (Zl8 rfl) ?_|refine Zim rfl (Zce rfl) ?_
      first|refine Zim rfl (Zaw rfl) ?_|refine Zim rfl (Zar rfl) ?_
      refine Zix (n := 32) rfl rfl qH qZ (c0) ?_
      first|refine Ziy rfl rfl qH qZ ?_|refine Zix rfl rfl qH qZ rfl ?_
      refine Ziq rfl ?_
      refine Zh8 rfl (by kernel_rfl) (copyBytes_x (L := [own 5 1 (.slice (some ⟨ga, 0, none⟩) A.length sc) A.length (A.map u8b)]) (Bs.own .here) (by omega)) rfl qT ?_
      rintro _ _ ⟨da, dc, rfl, rfl⟩
      refine Zg2 qA ?_
      refine Zg3 ⟨fun _ => Imp.arr qV, ?_⟩
      refine Ziq rfl ?_
      refine Zh8 rfl (by kernel_rfl) (ho da dc) rfl qT ?_
      rintro _ _ ⟨oa, oc, rfl, rfl⟩
      refine Zg2 qA ?_
      refine Zg3 ⟨(fun hh => Bool.noConfusion hh), ?_⟩
      first|refine Zim rfl (Zmm rfl) ?_|refine Zim rfl (Zar rfl) ?_
      refine Zim rfl (Zco rfl rfl) ?_
      refine Zim rfl (Zco rfl rfl) ?_
      first|refine Zim rfl (Za2 rfl) ?_|refine Zim rfl (Zas rfl) ?_
      first|refine Zim rfl (Zaz rfl) ?_|refine Zim rfl (Zas rfl) ?_
      refine Zik ?_
      refine Ct.o ?_
      refine Zgb ?_
      first|refine Zhg (Zau rfl) ?_|refine Zhg (Zar rfl) ?_
      first|refine Zhg (Zb1 rfl) ?_|refine Zhg (Zb0 rfl) ?_
      refine Zhn 82 rfl (rfl) ?_
      first|refine Zhg (Zau rfl) ?_|refine Zhg (Zar rfl) ?_
      first|refine Zhi rfl ?_|refine Zhj rfl ?_|(refine Zhh rfl ?_; (first|refine Zhg (Zat rfl) ?_|refine Zhg (Zar rfl) ?_))
      first|refine Zhi rfl ?_|refine Zhj rfl ?_|(refine Zhh rfl ?_; (first|refine Zhg (Zmk (b := 120) rfl rfl) ?_|refine Zhg (Zbs rfl rfl) ?_))
      first|refine Zhi rfl ?_|refine Zhj rfl ?_|(refine Zhh rfl ?_; (first|refine Zhg (Zau rfl) ?_|refine Zhg (Zar rfl) ?_))
      first|refine Zhi rfl ?_|refine Zhj rfl ?_|(refine Zhh rfl ?_; (first|refine Zhg (Zaw rfl) ?_|refine Zhg (Zar rfl) ?_))
      first|refine Zhi rfl ?_|refine Zhj rfl ?_|(refine Zhh rfl ?_; (first|refine Zhg (Zcr rfl) ?_|refine Zhg (Zct) ?_|refine Zhg (Zcu rfl) ?_))
      first|refine Zhi rfl ?_|refine Zhj rfl ?_|(refine Zhh rfl ?_; (first|refine Zhg (Zmk (b := 0) rfl rfl) ?_|refine Zhg (Zbs rfl rfl) ?_))
      first|refine Zhi rfl ?_|refine Zhj rfl ?_|(refine Zhh rfl ?_; (first|refine Zhg (Zdz rfl rfl) ?_|refine Zhg (Zd0 rfl rfl) ?_|refine Zhg (Za8 rfl rfl) ?_|refine Zhg (Za9 rfl rfl) ?_|refine Zhg (Za6 rfl rfl) ?_|refine Zhg (Za7 rfl rfl) ?_))
      first|refine Zhg (Zdz rfl rfl) ?_|refine Zhg (Zd0 rfl rfl) ?_|refine Zhg (Za8 rfl rfl) ?_|refine Zhg (Za9 rfl rfl) ?_|refine Zhg (Za6 rfl rfl) ?_|refine Zhg (Za7 rfl rfl) ?_
      refine Zg3 ?_
      refine Ct.o ?_
      refine Zgf rfl ?_
      refine Ct.o ?_
      refine Zij ([]) [] (.q 0 (.q 1 (.q 2 (.q 3 (.q 5 (.e 4 false (.q 6 (.q 7 .nil)))))))) (by kernel_rfl) (by kernel_rfl) (Imp.arr Arr.stop) ?_
      first|refine Zim rfl (Zaw rfl) ?_|refine Zim rfl (Zar rfl) ?_
      refine Zim rfl (Zm0 (h := 12) rfl rfl) ?_
      first|refine Zim rfl (Zaw rfl) ?_|refine Zim rfl (Zar rfl) ?_
      refine Zim rfl (Zm0 (h := 12) rfl rfl) ?_
      first|refine Zim rfl (Zau rfl) ?_|refine Zim rfl (Zar rfl) ?_
      refine Ziq rfl ?_
      refine Zh8 rfl (by kernel_rfl) (eqBytes_x (L := [own 5 1 (.slice (some ⟨ga, 0, none⟩) A.length sc) A.length (A.map u8b), own 5 1 (.slice (some ⟨gb, 0, none⟩) B.length uc) B.length (B.map u8b)]) (a := A.take 12) (b := B.take 12) ((Bs.own .here).take (by omega)) ((Bs.own (.there .here)).take (by omega))) rfl qT ?_
      rintro _ _ ⟨rfl, rfl⟩
      refine Zg2 qA ?_
      refine Zg3 ⟨(fun hh => Bool.noConfusion hh), ?_⟩
      refine Zi5 96 rfl (decide_eq_true (heq)) ?_
      refine Zim rfl (Zb7 rfl rfl) ?_
      refine Zi5 98 rfl (rfl) ?_
      first|refine Zim rfl (Za0 rfl) ?_|refine Zim rfl (Zas rfl) ?_
      refine Zik ?_
      refine Ct.o ?_
      refine rx1 (Zha rfl (Zg7)) ?_
      exact ⟨_, ⟨rfl, rfl⟩, qI⟩
    · have hne : ¬ A.take 12 = B.take 12 := by rw [ah, bh]; exact fun h => hc ((head_inj p q).1 h).2
      rw [pgOpenR_no key q A (fun h => hne (by rw [bh]; exact h.2.2))] at ho
      dsimp only at ho
      refine Ct.o ?_
      refine Zgb ?_
      first|refine Zhg (Zl8 rfl) ?_|refine Zhg (Zce rfl) ?_
      refine Zhp rfl qH rfl ?_
      first|refine Zhg (Zl8 rfl) ?_|refine Zhg (Zce rfl) ?_
      first|refine Zhg (Zl8 rfl) ?_|refine Zhg (Zce rfl) ?_
      refine Zhp rfl qH (c3) ?_
      refine Zhg (Zln (x := q.round) (y := p.round) rfl rfl) ?_
      refine Zhm 63 rfl (decide_eq_true (hr)) ?_
      first|refine Zhg (Zau rfl) ?_|refine Zhg (Zar rfl) ?_
      first|refine Zhi rfl ?_|refine Zhj rfl ?_|(refine Zhh rfl ?_; (first|refine Zhg (Zl8 rfl) ?_|refine Zhg (Zce rfl) ?_))
      first|refine Zhi rfl ?_|refine Zhj rfl ?_|(refine Zhh rfl ?_; (refine Zhp rfl qH rfl ?_))
      first|refine Zhi rfl ?_|refine Zhj rfl ?_|(refine Zhh rfl ?_; (first|refine Zhg (Zl8 rfl) ?_|refine Zhg (Zce rfl) ?_))
      first|refine Zhi rfl ?_|refine Zhj rfl ?_|(refine Zhh rfl ?_; (first|refine Zhg (Zl8 rfl) ?_|refine Zhg (Zce rfl) ?_))
      first|refine Zhi rfl ?_|refine Zhj rfl ?_|(refine Zhh rfl ?_; (refine Zhp rfl qH (c4) ?_))
      first|refine Zhi rfl ?_|refine Zhj rfl ?_|(refine Zhh rfl ?_; (refine Zhg (Zky (x := q.counter) (y := p.counter) rfl rfl) ?_))
      refine Zhn 70 rfl (decide_eq_false (hc)) ?_
      first|refine Zhg (Zdz rfl rfl) ?_|refine Zhg (Zd0 rfl rfl) ?_|refine Zhg (Za8 rfl rfl) ?_|refine Zhg (Za9 rfl rfl) ?_|refine Zhg (Za6 rfl rfl) ?_|refine Zhg (Za7 rfl rfl) ?_
      first|refine Zhg (Za0 rfl) ?_|refine Zhg (Zas rfl) ?_
      refine Zg3 ?_
      refine Ct.o ?_
      refine Zij ([cl b2 ((shc key p (.slice ta text.length tc)).toArray) 36, cl b3 (plc q) 31]) [2, 4] (.q 0 (.q 3 (.r 1 (.r 2 (.e 4 true (.e 5 false (.q 6 (.q 7 (.q 8 (.q 9 (.q 10 .nil))))))))))) (by kernel_rfl) (by kernel_rfl) (Imp.arr qV) ?_
      first|refine Zim rfl (Zl8 rfl) ?_|refine Zim rfl (Zce rfl) ?_
      first|refine Zim rfl (Zaw rfl) ?_|refine Zim rfl (Zar rfl) ?_
      refine Zix (n := 32) rfl rfl qH qZ (c0) ?_
      first|refine Ziy rfl rfl qH qZ ?_|refine Zix rfl rfl qH qZ rfl ?_
      refine Ziq rfl ?_
      refine Zh8 rfl (by kernel_rfl) (copyBytes_x (L := [own 5 1 (.slice (some ⟨ga, 0, none⟩) A.length sc) A.length (A.map u8b)]) (Bs.own .here) (by omega)) rfl qT ?_
      rintro _ _ ⟨da, dc, rfl, rfl⟩
      refine Zg2 qA ?_
      refine Zg3 ⟨fun _ => Imp.arr qV, ?_⟩
      refine Ziq rfl ?_
      refine Zh8 rfl (by kernel_rfl) (ho da dc) rfl qT ?_
      rintro _ _ ⟨oa, oc, rfl, rfl⟩
      refine Zg2 qA ?_
      refine Zg3 ⟨(fun hh => Bool.noConfusion hh), ?_⟩
      first|refine Zim rfl (Zmm rfl) ?_|refine Zim rfl (Zar rfl) ?_
      refine Zim rfl (Zco rfl rfl) ?_
      refine Zim rfl (Zco rfl rfl) ?_
      first|refine Zim rfl (Za2 rfl) ?_|refine Zim rfl (Zas rfl) ?_
      first|refine Zim rfl (Zaz rfl) ?_|refine Zim rfl (Zas rfl) ?_
      refine Zik ?_
      refine Ct.o ?_
      refine Zgb ?_
      first|refine Zhg (Zau rfl) ?_|refine Zhg (Zar rfl) ?_
      first|refine Zhg (Zb1 rfl) ?_|refine Zhg (Zb0 rfl) ?_
      refine Zhm 82 rfl (rfl) ?_
      first|refine Zhg (Zau rfl) ?_|refine Zhg (Zar rfl) ?_
      first|refine Zhi rfl ?_|refine Zhj rfl ?_|(refine Zhh rfl ?_; (first|refine Zhg (Zat rfl) ?_|refine Zhg (Zar rfl) ?_))
      first|refine Zhi rfl ?_|refine Zhj rfl ?_|(refine Zhh rfl ?_; (first|refine Zhg (Zmk (b := 120) rfl rfl) ?_|refine Zhg (Zbs rfl rfl) ?_))
      refine Zhn 85 rfl (decide_eq_false ((fun h => h rfl))) ?_
      first|refine Zhi rfl ?_|refine Zhj rfl ?_|(refine Zhh rfl ?_; (first|refine Zhg (Zau rfl) ?_|refine Zhg (Zar rfl) ?_))
      first|refine Zhi rfl ?_|refine Zhj rfl ?_|(refine Zhh rfl ?_; (first|refine Zhg (Zaw rfl) ?_|refine Zhg (Zar rfl) ?_))
      first|refine Zhi rfl ?_|refine Zhj rfl ?_|(refine Zhh rfl ?_; (first|refine Zhg (Zcr rfl) ?_|refine Zhg (Zct) ?_|refine Zhg (Zcu rfl) ?_))
      first|refine Zhi rfl ?_|refine Zhj rfl ?_|(refine Zhh rfl ?_; (first|refine Zhg (Zmk (b := 0) rfl rfl) ?_|refine Zhg (Zbs rfl rfl) ?_))
      refine Zhn 89 rfl (decide_eq_false ((fun h => h rfl))) ?_
      first|refine Zhi rfl ?_|refine Zhj rfl ?_|(refine Zhh rfl ?_; (first|refine Zhg (Zdz rfl rfl) ?_|refine Zhg (Zd0 rfl rfl) ?_|refine Zhg (Za8 rfl rfl) ?_|refine Zhg (Za9 rfl rfl) ?_|refine Zhg (Za6 rfl rfl) ?_|refine Zhg (Za7 rfl rfl) ?_))
      first|refine Zhg (Zdz rfl rfl) ?_|refine Zhg (Zd0 rfl rfl) ?_|refine Zhg (Za8 rfl rfl) ?_|refine Zhg (Za9 rfl rfl) ?_|refine Zhg (Za6 rfl rfl) ?_|refine Zhg (Za7 rfl rfl) ?_
      refine Zg3 ?_
      refine Ct.o ?_
      refine Zgf rfl ?_
      refine Ct.o ?_
      refine Zij ([]) [] (.q 0 (.q 1 (.q 2 (.q 3 (.q 5 (.e 4 false (.q 6 (.q 7 .nil)))))))) (by kernel_rfl) (by kernel_rfl) (Imp.arr Arr.stop) ?_
      first|refine Zim rfl (Zaw rfl) ?_|refine Zim rfl (Zar rfl) ?_
      refine Zim rfl (Zm0 (h := 12) rfl rfl) ?_
      first|refine Zim rfl (Zaw rfl) ?_|refine Zim rfl (Zar rfl) ?_
      refine Zim rfl (Zm0 (h := 12) rfl rfl) ?_
      first|refine Zim rfl (Zau rfl) ?_|refine Zim rfl (Zar rfl) ?_
      refine Ziq rfl ?_
      refine Zh8 rfl (by kernel_rfl) (eqBytes_x (L := [own 5 1 (.slice (some ⟨ga, 0, none⟩) A.length sc) A.length (A.map u8b), own 5 1 (.slice (some ⟨gb, 0, none⟩) B.length uc) B.length (B.map u8b)]) (a := A.take 12) (b := B.take 12) ((Bs.own .here).take (by omega)) ((Bs.own (.there .here)).take (by omega))) rfl qT ?_
      rintro _ _ ⟨rfl, rfl⟩
      refine Zg2 qA ?_
      refine Zg3 ⟨(fun hh => Bool.noConfusion hh), ?_⟩
      refine Zi6 96 rfl (decide_eq_false (hne)) ?_
      refine Zim rfl (Zb7 rfl rfl) ?_
      refine Zi5 98 rfl (rfl) ?_
      first|refine Zim rfl (Za0 rfl) ?_|refine Zim rfl (Zas rfl) ?_
      refine Zik ?_
      refine Ct.o ?_
      refine rx1 (Zha rfl (Zg7)) ?_
      exact ⟨_, ⟨rfl, rfl⟩, qI⟩
  · have hne : ¬ A.take 12 = B.take 12 := by rw [ah, bh]; exact fun h => hr ((head_inj p q).1 h).1
    rw [pgOpenR_no key q A (fun h => hne (by rw [bh]; exact h.2.2))] at ho
    dsimp only at ho
    refine Ct.o ?_
    refine Zgb ?_
    first|refine Zhg (Zl8 rfl) ?_|refine Zhg (Zce rfl) ?_
    refine Zhp rfl qH rfl ?_
    first|refine Zhg (Zl8 rfl) ?_|refine Zhg (Zce rfl) ?_
    first|refine Zhg (Zl8 rfl) ?_|refine Zhg (Zce rfl) ?_
    refine Zhp rfl qH (c3) ?_
    refine Zhg (Zln (x := q.round) (y := p.round) rfl rfl) ?_
    refine Zhn 63 rfl (decide_eq_false (hr)) ?_
    first|refine Zhg (Zau rfl) ?_|refine Zhg (Zar rfl) ?_
    first|refine Zhi rfl ?_|refine Zhj rfl ?_|(refine Zhh rfl ?_; (first|refine Zhg (Zl8 rfl) ?_|refine Zhg (Zce rfl) ?_))
    first|refine Zhi rfl ?_|refine Zhj rfl ?_|(refine Zhh rfl ?_; (refine Zhp rfl qH rfl ?_))
    first|refine Zhi rfl ?_|refine Zhj rfl ?_|(refine Zhh rfl ?_; (first|refine Zhg (Zl8 rfl) ?_|refine Zhg (Zce rfl) ?_))
    first|refine Zhi rfl ?_|refine Zhj rfl ?_|(refine Zhh rfl ?_; (first|refine Zhg (Zl8 rfl) ?_|refine Zhg (Zce rfl) ?_))
    first|refine Zhi rfl ?_|refine Zhj rfl ?_|(refine Zhh rfl ?_; (refine Zhp rfl qH rfl ?_))
    first|refine Zhi rfl ?_|refine Zhj rfl ?_|(refine Zhh rfl ?_; (refine Zhg (Zky rfl rfl) ?_))
    first|refine Zhg (Zdz rfl rfl) ?_|refine Zhg (Zd0 rfl rfl) ?_|refine Zhg (Za8 rfl rfl) ?_|refine Zhg (Za9 rfl rfl) ?_|refine Zhg (Za6 rfl rfl) ?_|refine Zhg (Za7 rfl rfl) ?_
    first|refine Zhg (Za0 rfl) ?_|refine Zhg (Zas rfl) ?_
    refine Zg3 ?_
    refine Ct.o ?_
    refine Zij ([cl b2 ((shc key p (.slice ta text.length tc)).toArray) 36, cl b3 (plc q) 31]) [2, 4] (.q 0 (.q 3 (.r 1 (.r 2 (.e 4 true (.e 5 false (.q 6 (.q 7 (.q 8 (.q 9 (.q 10 .nil))))))))))) (by kernel_rfl) (by kernel_rfl) (Imp.arr qV) ?_
    first|refine Zim rfl (Zl8 rfl) ?_|refine Zim rfl (Zce rfl) ?_
    first|refine Zim rfl (Zaw rfl) ?_|refine Zim rfl (Zar rfl) ?_
    refine Zix (n := 32) rfl rfl qH qZ (c0) ?_
    first|refine Ziy rfl rfl qH qZ ?_|refine Zix rfl rfl qH qZ rfl ?_
    refine Ziq rfl ?_
    refine Zh8 rfl (by kernel_rfl) (copyBytes_x (L := [own 5 1 (.slice (some ⟨ga, 0, none⟩) A.length sc) A.length (A.map u8b)]) (Bs.own .here) (by omega)) rfl qT ?_
    rintro _ _ ⟨da, dc, rfl, rfl⟩
    refine Zg2 qA ?_
    refine Zg3 ⟨fun _ => Imp.arr qV, ?_⟩
    refine Ziq rfl ?_
    refine Zh8 rfl (by kernel_rfl) (ho da dc) rfl qT ?_
    rintro _ _ ⟨oa, oc, rfl, rfl⟩
    refine Zg2 qA ?_
    refine Zg3 ⟨(fun hh => Bool.noConfusion hh), ?_⟩
    first|refine Zim rfl (Zmm rfl) ?_|refine Zim rfl (Zar rfl) ?_
    refine Zim rfl (Zco rfl rfl) ?_
    refine Zim rfl (Zco rfl rfl) ?_
    first|refine Zim rfl (Za2 rfl) ?_|refine Zim rfl (Zas rfl) ?_
    first|refine Zim rfl (Zaz rfl) ?_|refine Zim rfl (Zas rfl) ?_
    refine Zik ?_
    refine Ct.o ?_
    refine Zgb ?_
    first|refine Zhg (Zau rfl) ?_|refine Zhg (Zar rfl) ?_
    first|refine Zhg (Zb1 rfl) ?_|refine Zhg (Zb0 rfl) ?_
    refine Zhm 82 rfl (rfl) ?_
    first|refine Zhg (Zau rfl) ?_|refine Zhg (Zar rfl) ?_
    first|refine Zhi rfl ?_|refine Zhj rfl ?_|(refine Zhh rfl ?_; (first|refine Zhg (Zat rfl) ?_|refine Zhg (Zar rfl) ?_))
    first|refine Zhi rfl ?_|refine Zhj rfl ?_|(refine Zhh rfl ?_; (first|refine Zhg (Zmk (b := 120) rfl rfl) ?_|refine Zhg (Zbs rfl rfl) ?_))
    refine Zhn 85 rfl (decide_eq_false ((fun h => h rfl))) ?_
    first|refine Zhi rfl ?_|refine Zhj rfl ?_|(refine Zhh rfl ?_; (first|refine Zhg (Zau rfl) ?_|refine Zhg (Zar rfl) ?_))
    first|refine Zhi rfl ?_|refine Zhj rfl ?_|(refine Zhh rfl ?_; (first|refine Zhg (Zaw rfl) ?_|refine Zhg (Zar rfl) ?_))
    first|refine Zhi rfl ?_|refine Zhj rfl ?_|(refine Zhh rfl ?_; (first|refine Zhg (Zcr rfl) ?_|refine Zhg (Zct) ?_|refine Zhg (Zcu rfl) ?_))
    first|refine Zhi rfl ?_|refine Zhj rfl ?_|(refine Zhh rfl ?_; (first|refine Zhg (Zmk (b := 0) rfl rfl) ?_|refine Zhg (Zbs rfl rfl) ?_))
    refine Zhn 89 rfl (decide_eq_false ((fun h => h rfl))) ?_
    first|refine Zhi rfl ?_|refine Zhj rfl ?_|(refine Zhh rfl ?_; (first|refine Zhg (Zdz rfl rfl) ?_|refine Zhg (Zd0 rfl rfl) ?_|refine Zhg (Za8 rfl rfl) ?_|refine Zhg (Za9 rfl rfl) ?_|refine Zhg (Za6 rfl rfl) ?_|refine Zhg (Za7 rfl rfl) ?_))
    first|refine Zhg (Zdz rfl rfl) ?_|refine Zhg (Zd0 rfl rfl) ?_|refine Zhg (Za8 rfl rfl) ?_|refine Zhg (Za9 rfl rfl) ?_|refine Zhg (Za6 rfl rfl) ?_|refine Zhg (Za7 rfl rfl) ?_
    refine Zg3 ?_
    refine Ct.o ?_
    refine Zgf rfl ?_
    refine Ct.o ?_
    refine Zij ([]) [] (.q 0 (.q 1 (.q 2 (.q 3 (.q 5 (.e 4 false (.q 6 (.q 7 .nil)))))))) (by kernel_rfl) (by kernel_rfl) (Imp.arr Arr.stop) ?_
    first|refine Zim rfl (Zaw rfl) ?_|refine Zim rfl (Zar rfl) ?_
    refine Zim rfl (Zm0 (h := 12) rfl rfl) ?_
    first|refine Zim rfl (Zaw rfl) ?_|refine Zim rfl (Zar rfl) ?_
    refine Zim rfl (Zm0 (h := 12) rfl rfl) ?_
    first|refine Zim rfl (Zau rfl) ?_|refine Zim rfl (Zar rfl) ?_
    refine Ziq rfl ?_
    refine Zh8 rfl (by kernel_rfl) (eqBytes_x (L := [own 5 1 (.slice (some ⟨ga, 0, none⟩) A.length sc) A.length (A.map u8b), own 5 1 (.slice (some ⟨gb, 0, none⟩) B.length uc) B.length (B.map u8b)]) (a := A.take 12) (b := B.take 12) ((Bs.own .here).take (by omega)) ((Bs.own (.there .here)).take (by omega))) rfl qT ?_
    rintro _ _ ⟨rfl, rfl⟩
    refine Zg2 qA ?_
    refine Zg3 ⟨(fun hh => Bool.noConfusion hh), ?_⟩
    refine Zi6 96 rfl (decide_eq_false (hne)) ?_
    refine Zim rfl (Zb7 rfl rfl) ?_
    refine Zi5 98 rfl (rfl) ?_
    first|refine Zim rfl (Za0 rfl) ?_|refine Zim rfl (Zas rfl) ?_
    refine Zik ?_
    refine Ct.o ?_
    refine rx1 (Zha rfl (Zg7)) ?_
    exact ⟨_, ⟨rfl, rfl⟩, qI⟩
theorem pgNames_w (W : World) : Con Try.prog 3 [] [old W] (fun r M => r = .bool true ∧ [old W] = M) := names_x
theorem pgReturns_w (W : World) (x : SheetV) (ok : SheetVOk W x) : Con Try.prog 4 [.agg x.cells.toArray] [old W] (fun r M => r = .bool true ∧ [old W] = M) := by
  rw [sheet_shc]; exact returns_g x.key_ ok.key_ x.place_.plc (ok.b_.bs .here) ok.b_.len
theorem pgForm_w (W : World) (x : SheetV) (ok : SheetVOk W x) : Con Try.prog 5 [.agg x.cells.toArray] [old W] (fun r M => r = .bool true ∧ [old W] = M) := by
  rw [sheet_shc]; exact form_g x.key_ ok.key_ x.place_.plc (ok.b_.bs .here) ok.b_.len
theorem pgElse_w (W : World) (x : SheetV) (ok : SheetVOk W x) (y : PlaceV) (ok2 : PlaceVOk W y) : Con Try.prog 6 [.agg x.cells.toArray, .agg y.cells.toArray] [old W] (fun r M => r = .bool true ∧ [old W] = M) := by
  rw [sheet_shc, place_plc]; exact else_g x.key_ ok.key_ x.place_.plc y.plc (ok.b_.bs .here) ok.b_.len
end Go.Sl
