/- Parts of the proof. -/
import Derived.Test.YtkifhflakdkemaaGreatLawSorterBlindM0
import Derived.Test.YtkifhflakdkemaaGreatLawSorterBlindM1
set_option maxHeartbeats 4000000
set_option maxRecDepth 10000
set_option linter.unusedVariables false
set_option linter.unusedSimpArgs false
namespace Go.Sl
open Go Go.Proofs
attribute [local irreducible] pt own old pur ex all den denOps denS xOps xC cX CX xthen xblk xcut xloop xng retX resX Calls PV Rd Con
attribute [local irreducible] hostA omap ohole oheld rowsA faultsA HostS.before HostS.behind
theorem fault_rd {fv : Value} {fl : List HostS.Fault} {M M' : List Asrt} (hm : Has M (faultsA fv fl) M') : Rd M 6 fv fl.length (fl.flatMap fcells) := by
  unfold faultsA at hm
  exact Rd.own hm
theorem fault_one (f : HostS.Fault) : ((fcells f).toArray).toList.all oneC = true := rfl
theorem faults_len {fv : Value} {fl : List HostS.Fault} {M M' : List Asrt} {F : Asrt} {w0 w : World} (hm : Has M (faultsA fv fl) M') (H : St w0 w (F :: M)) : ∃ a c, fv = .slice a fl.length c := (fault_rd hm).len H
section
variable {p : Nat} {s : HostS.HS} {L L2 : List Asrt} {F : FuncId} {cs : List Value}
theorem does_no {bv : Value} (op page : Int) (b : List Byte) (act : HostS.HS → HostS.HS) (hd : HostS.done s = false) (hops : s.ops < 3518437208880) :
    Con Tryz.prog 296 [hp p, .int .i64 op, .int .i64 page, bv, .func (.func F) #[] cs.toArray] [hostA p s] (fun r M => r = nvv 110 ∧ M = [hostA p (HostS.does s op page b act).1]) := by
  refine Con.hostA fun c hs => ?_
  obtain ⟨bl, bc, la, lc⟩ := c
  simp only [List.cons_append, List.nil_append, List.append_nil]
  cases hdn : s.down with
  | true =>
    have e : HostS.does s op page b act = (s, 110) := by unfold HostS.does; rw [if_pos hdn]
    rw [e]
    have hpw : powerOf s = 1 := by unfold powerOf; rw [if_pos hdn]
    refine fn_y Tryz.func296 Tryz.mixed ?_
    intro w0
    refine Y8 ?_
    refine Zhg (Zbr (a := powerOf s) (b := 1) rfl rfl) ?_
    refine Zos 20 rfl (hpw) ?_
    refine V5 ?_
    refine rx1 (Zg9 rfl (Zg7)) ?_
    exact ⟨_, ⟨rfl, rfl⟩, (Imp.arr (N := hostP p s (bl, bc, la, lc) ++ []) qV).trans (hostA_mk hs)⟩
  | false =>
    have hbf : HostS.before (s.coming s.ops) = true := by
      unfold HostS.done at hd
      rw [hdn] at hd
      simpa using hd
    have e : HostS.does s op page b act = ({ HostS.taken s with down := true }, 110) := by
      unfold HostS.does
      rw [if_neg (by rw [hdn]; simp)]
      dsimp only
      rw [if_pos hbf]
    rw [e]
    have hpw : powerOf s = 0 := by unfold powerOf; rw [if_neg (by rw [hdn]; simp)]
    have hfl := hs.fln s.ops
    generalize hfe : s.coming s.ops = fl at hbf hfl
    refine fn_y Tryz.func296 Tryz.mixed ?_
    intro w0
    refine Y8 ?_
    refine Zhg (Zbr (a := powerOf s) (b := 1) rfl rfl) ?_
    refine Zot 20 rfl ((by rw [hpw]; omega)) ?_
    refine V2 ?_
    refine Zgp (Imp.arr (N := omap bc faultsA [] s.coming :: cl p (hcl s (bl, bc, la, lc)) 141 :: omap bl rowsA [] s.lay :: [ownLog la lc s.log]) qV) ?_
    refine Zom faults_nil (s.ops : Int) ?_
    intro fv
    rw [hfe]
    refine Zgt (fun F w H => faults_len qH H) ?_
    rintro ⟨fa, fc, rfl⟩
    refine Ct.o ?_
    refine Zij ([cl p (hcl s (bl, bc, la, lc)) 141, ohole bc faultsA [] s.coming s.ops (.slice fa fl.length fc)]) [7] (.q 0 (.q 1 (.q 2 (.q 4 (.q 5 (.q 6 (.r 3 (.r 7 (.r 8 (.q 9 .nil)))))))))) (by kernel_rfl) (by kernel_rfl) (Imp.arr qV) ?_
    refine W8 ?_
    refine Zon rfl rfl rfl qH ?_
    refine W2 ?_
    refine Ct.o ?_
    refine Zij ([cl p (hcl s (bl, bc, la, lc)) 141]) [7] (.q 0 (.q 1 (.q 2 (.q 4 (.q 5 (.q 6 (.r 3 (.r 7 (.e 8 false .nil))))))))) (by kernel_rfl) (by kernel_rfl) (Imp.arr qV) ?_
    refine W8 ?_
    refine Ziq rfl ?_; refine Zii rfl rfl qR ?_; refine Zg3 ⟨(fun hh => Bool.noConfusion hh), ?_⟩
    refine Zik ?_
    refine Y8 ?_
    refine Zht rfl rfl qR qZ (rfl) ?_
    refine V1 ?_
    refine Zgp (Imp.arr (N := cl p (hcl (HostS.taken s) (bl, bc, la, lc)) 141 :: omap bl rowsA [] (HostS.taken s).lay :: omap bc faultsA [] (HostS.taken s).coming :: ownLog la lc (HostS.taken s).log :: [faultsA (.slice fa fl.length fc) fl]) qV) ?_
    have hok1 := ok_taken hs
    refine V5 ?_
    refine Zgo [(10, 10), (13, 13), (47, 57)] (by kernel_rfl) (fun i : Nat => i ≤ fl.length ∧ HostS.before (fl.take i) = false) (fun _ => cl p (hcl (HostS.taken s) (bl, bc, la, lc)) 141 :: omap bl rowsA [] (HostS.taken s).lay :: omap bc faultsA [] (HostS.taken s).coming :: ownLog la lc (HostS.taken s).log :: [faultsA (.slice fa fl.length fc) fl]) (fun i => [(47, nvv i)]) (fun i => fl.length - i) 0 ⟨Nat.zero_le _, by with_unfolding_all rfl⟩ qI ⟨rfl, trivial⟩ ?_
    rintro i u ⟨hi, hno⟩
    have hB : i < fl.length := by
      by_cases hh : i < fl.length
      · exact hh
      · rw [List.take_of_length_le (by omega), hbf] at hno; cases hno
    refine Zgt (fun F w H => (fault_rd (M := _) qH).someAt (by omega) H) ?_
    rintro ⟨f1, f2, rfl⟩
    refine Y2 ?_
    refine Zos 48 rfl (hB) ?_
    refine Y4 ?_
    refine Zfg rfl (((fault_rd qH).agN fcells_len (by omega) hB)) ?_
    refine Zhz (cs := #[.int .i64 0, .int .i64 0, .int .i64 0, .int .i64 0, u8b 0#8, .int .i64 0]) rfl ?_; intro b13
    first|refine Zhy rfl rfl qR qZ (by first|rfl|exact oneM_u8 _|exact oneL_u8 _|exact tcells_one _|assumption|(simp [oneC]; done)) qZ ?_|refine Zhx rfl rfl qR qZ (by first|rfl|exact oneM_u8 _|exact oneL_u8 _|exact tcells_one _|assumption|(simp [oneC]; done)) qZ rfl ?_
    refine V1 ?_
    by_cases h3 : fl[i].kind = 3
    · refine Y2 ?_
      refine Zhp rfl qH ((by rfl)) ?_
      refine Zhg (Zbr (a := fl[i].kind) (b := 3) rfl rfl) ?_
      refine Zos 53 rfl (h3) ?_
      refine Y6 ?_
      refine Zht rfl rfl qR qZ (rfl) ?_
      refine V4 ?_
      refine rx1 (Zg9 rfl (Zg7)) ?_
      exact ⟨_, ⟨rfl, rfl⟩, (Imp.arr (N := hostP p { HostS.taken s with down := true } (bl, bc, la, lc) ++ []) qV).trans (hostA_mk (ok_down true hok1))⟩
    · refine Y2 ?_
      refine Zhp rfl qH ((by rfl)) ?_
      refine Zhg (Zbr (a := fl[i].kind) (b := 3) rfl rfl) ?_
      refine Zot 53 rfl (h3) ?_
      refine V6 ?_
      exact Zgl (i + 1) qO ⟨by omega, by rw [before_take fl i hB, hno]; simp [h3]⟩ qI ⟨rfl, trivial⟩
theorem hok_logged {op page : Int} {b : List Byte} (hs : HostS.Ok s) : HostS.Ok (HostS.logged s op page b) := by
  have h := ok_taken hs
  refine ⟨h.p0, h.p1, h.z0, h.z1, h.row, h.many, ?_, h.flt, h.fln⟩
  show (s.log ++ [HostS.touchOf s op page b]).length ≤ s.ops + 1
  rw [List.length_append, List.length_singleton]
  exact Nat.succ_le_succ hs.log
theorem does_yes {bv : Value} {b : List Byte} (op page : Int) (act : HostS.HS → HostS.HS) (hb : Bs L bv b) (hbl : b.length ≤ 9223372036854775807) (hd : HostS.done s = true) (hops : s.ops < 3518437208880) (hF : callable Tryz.prog F = true)
    (hact2 : HostS.Ok s → HostS.Ok (HostS.logged s op page b) → HostS.Ok (act (HostS.logged s op page b))) (hact3 : (act (HostS.logged s op page b)).down = false)
    (hact : ∀ fv : Value, Con Tryz.prog F (fv :: cs) (hostA p (HostS.logged s op page b) :: faultsA fv (s.coming s.ops) :: L) (fun _ M => M = hostA p (act (HostS.logged s op page b)) :: faultsA fv (s.coming s.ops) :: L2)) :
    Con Tryz.prog 296 [hp p, .int .i64 op, .int .i64 page, bv, .func (.func F) #[] cs.toArray] (hostA p s :: L) (fun r M => r = nvv (HostS.does s op page b act).2 ∧ M = hostA p (HostS.does s op page b act).1 :: L2) := by
  refine Con.get (fun w0 w F H => hb.sh _ _ _ (H.enx Imp.tail)) ?_
  rintro ⟨ba, bcp, rfl, hbc, hbcm⟩
  refine Con.hostA fun c hs => ?_
  obtain ⟨bl, bc, la, lc⟩ := c
  simp only [List.cons_append, List.nil_append, List.append_nil]
  have hdn : s.down = false := by
    unfold HostS.done at hd
    cases h : s.down with
    | false => rfl
    | true => rw [h] at hd; simp at hd
  have hbf : HostS.before (s.coming s.ops) = false := by
    unfold HostS.done at hd
    rw [hdn] at hd
    simpa using hd
  have e : HostS.does s op page b act = if HostS.behind (s.coming s.ops) = true then ({ act (HostS.logged s op page b) with down := true }, 110) else (act (HostS.logged s op page b), 0) := by
    unfold HostS.does
    rw [if_neg (by rw [hdn]; simp)]
    dsimp only
    rw [if_neg (by rw [hbf]; simp)]
  rw [e]
  have hpw : powerOf s = 0 := by unfold powerOf; rw [if_neg (by rw [hdn]; simp)]
  have hfl := hs.fln s.ops
  have hlg := hs.log
  generalize hfe : s.coming s.ops = fl at hbf hfl hact ⊢
  refine fn_y Tryz.func296 Tryz.mixed ?_
  intro w0
  refine Y8 ?_
  refine Zhg (Zbr (a := powerOf s) (b := 1) rfl rfl) ?_
  refine Zot 20 rfl ((by rw [hpw]; omega)) ?_
  refine V2 ?_
  refine Zgp (Imp.arr (N := omap bc faultsA [] s.coming :: cl p (hcl s (bl, bc, la, lc)) 141 :: omap bl rowsA [] s.lay :: ownLog la lc s.log :: L) qV) ?_
  refine Zom faults_nil (s.ops : Int) ?_
  intro fv
  rw [hfe]
  refine Zgt (fun F w H => faults_len qH H) ?_
  rintro ⟨fa, fc, rfl⟩
  refine Ct.o ?_
  refine Zij ([cl p (hcl s (bl, bc, la, lc)) 141, ohole bc faultsA [] s.coming s.ops (.slice fa fl.length fc)]) [7] (.q 0 (.q 1 (.q 2 (.q 4 (.q 5 (.q 6 (.r 3 (.r 7 (.r 8 (.q 9 .nil)))))))))) (by kernel_rfl) (by kernel_rfl) (Imp.arr qV) ?_
  refine W8 ?_
  refine Zon rfl rfl rfl qH ?_
  refine W2 ?_
  refine Ct.o ?_
  refine Zij ([cl p (hcl s (bl, bc, la, lc)) 141]) [7] (.q 0 (.q 1 (.q 2 (.q 4 (.q 5 (.q 6 (.r 3 (.r 7 (.e 8 false .nil))))))))) (by kernel_rfl) (by kernel_rfl) (Imp.arr qV) ?_
  refine W8 ?_
  refine Ziq rfl ?_; refine Zii rfl rfl qR ?_; refine Zg3 ⟨(fun hh => Bool.noConfusion hh), ?_⟩
  refine Zik ?_
  refine Y8 ?_
  refine Zht rfl rfl qR qZ (rfl) ?_
  refine V1 ?_
  refine Zgp (Imp.arr (N := cl p (hcl (HostS.taken s) (bl, bc, la, lc)) 141 :: omap bl rowsA [] (HostS.taken s).lay :: omap bc faultsA [] (HostS.taken s).coming :: ownLog la lc (HostS.taken s).log :: faultsA (.slice fa fl.length fc) fl :: L) qV) ?_
  have hok1 := ok_taken hs
  refine V5 ?_
  refine Zgo [(10, 10), (13, 13), (47, 57)] (by kernel_rfl) (fun i : Nat => i ≤ fl.length) (fun _ => cl p (hcl (HostS.taken s) (bl, bc, la, lc)) 141 :: omap bl rowsA [] (HostS.taken s).lay :: omap bc faultsA [] (HostS.taken s).coming :: ownLog la lc (HostS.taken s).log :: faultsA (.slice fa fl.length fc) fl :: L) (fun i => [(47, nvv i)]) (fun i => fl.length - i) 0 (Nat.zero_le _) qI ⟨rfl, trivial⟩ ?_
  intro i u hi
  refine V3 ?_
  refine Zgg rfl (fun hB => ?_) (fun hB => ?_)
  · refine Zgt (fun F w H => (fault_rd (M := _) qH).someAt (by omega) H) ?_
    rintro ⟨f1, f2, rfl⟩
    have h3 : ¬ fl[i].kind = 3 := by
      intro hh
      with_unfolding_all unfold HostS.before at hbf
      rw [List.any_eq_false] at hbf
      exact hbf _ (List.getElem_mem hB) (by simp [hh])
    refine Y2 ?_
    refine Zfg rfl (((fault_rd qH).agN fcells_len (by omega) hB)) ?_
    refine Zhz (cs := #[.int .i64 0, .int .i64 0, .int .i64 0, .int .i64 0, u8b 0#8, .int .i64 0]) rfl ?_; intro b13
    first|refine Zhy rfl rfl qR qZ (by first|rfl|exact oneM_u8 _|exact oneL_u8 _|exact tcells_one _|assumption|(simp [oneC]; done)) qZ ?_|refine Zhx rfl rfl qR qZ (by first|rfl|exact oneM_u8 _|exact oneL_u8 _|exact tcells_one _|assumption|(simp [oneC]; done)) qZ rfl ?_
    refine Y3 ?_
    refine Zhp rfl qH ((by rfl)) ?_
    refine Zhg (Zbr (a := fl[i].kind) (b := 3) rfl rfl) ?_
    refine Zot 53 rfl (h3) ?_
    refine V6 ?_
    exact Zgl (i + 1) qO (by omega) qI ⟨rfl, trivial⟩
  · have htl := tcells_len _ (touchOf_len s op page b)
    have hlg2 : (HostS.taken s).log.length ≤ s.ops := hs.log
    have htc := touch_x (p := p) (s := HostS.taken s) (c := (bl, bc, la, lc)) op page hb hbl
    have htt : HostS.touchOf (HostS.taken s) op page b = HostS.touchOf s op page b := rfl
    rw [htt] at htc
    refine Ct.o ?_
    refine Zij ([cl p (hcl (HostS.taken s) (bl, bc, la, lc)) 141]) [9, 10] (.q 0 (.q 1 (.q 2 (.q 3 (.q 5 (.q 6 (.q 7 (.q 8 (.r 4 (.e 9 true (.e 10 true (.e 11 false (.q 12 (.q 13 (.e 14 false .nil))))))))))))))) (by kernel_rfl) (by kernel_rfl) (Imp.arr qV) ?_
    refine W9 ?_
    refine Ziq rfl ?_
    refine Zor (c := htc) (k := ?_)
    rintro _ _ ⟨rfl, rfl⟩
    refine Y1 ?_
    refine Zg3 ⟨fun _ => Imp.arr qV, ?_⟩
    refine Ziq rfl ?_; refine Zh7 (cs := (tcells (HostS.touchOf s op page b)).toArray) (by omega) (by omega) (by exact fill_one (by show (tcells (HostS.touchOf s op page b)).toArray.size = 15; simp [htl]) rfl) ?_; intro b68; refine Zg3 ⟨fun _ => Imp.arr qV, ?_⟩
    refine Ziq rfl ?_
    refine Zia rfl rfl qH (Rd.cl (xs := tcells (HostS.touchOf s op page b)) qH (by rw [htl]) qZ (by simp [htl, List.extract_eq_take_drop, List.take_of_length_le])) (by first|rfl|exact oneM_u8 _|exact oneL_u8 _|exact tcells_one _|assumption|(simp [oneC]; done)) (by omega) qS ?_; intro a3 c3
    refine Zg3 ⟨(fun hh => Bool.noConfusion hh), ?_⟩
    refine W2 ?_
    refine Ziq rfl ?_
    refine Zhw rfl rfl qR qZ (rfl) ?_
    refine Zg3 ⟨(fun hh => Bool.noConfusion hh), ?_⟩
    refine Zik ?_
    refine Ct.o ?_
    have hll : (HostS.logged s op page b).log.length = (HostS.taken s).log.length + 1 := by simp [HostS.logged, HostS.taken]
    have hq : hcl (HostS.logged s op page b) (bl, bc, a3, c3) = (hcl (HostS.taken s) (bl, bc, la, lc)).setIfInBounds 6 (.slice a3 ((HostS.taken s).log.length + 1) c3) := by
      show (#[_, _, _, _, _, _, .slice a3 (HostS.logged s op page b).log.length c3, _] : Array Value) = _
      rw [hll]; rfl
    have hw : ownLog a3 c3 (HostS.logged s op page b).log = own 158 15 (.slice a3 ((HostS.taken s).log.length + 1) c3) ((HostS.taken s).log.length + 1) ((HostS.taken s).log.flatMap tcells ++ tcells (HostS.touchOf s op page b)) := by
      unfold ownLog
      rw [hll]
      congr 1
      show (s.log ++ [HostS.touchOf s op page b]).flatMap tcells = _
      rw [List.flatMap_append]; simp; rfl
    have hmk := hostA_mk (p := p) (c := (bl, bc, a3, c3)) (L := faultsA (.slice fa fl.length fc) fl :: L) (hok_logged (op := op) (page := page) (b := b) hs)
    simp only [List.cons_append, List.nil_append] at hmk
    rw [hq, hw] at hmk
    refine Zgp ((Imp.arr qV).trans hmk) ?_
    refine Y3 ?_
    refine Zh8 rfl hF (hact (.slice fa fl.length fc)) rfl qT ?_; rintro _ _ rfl; refine Zg2 qA ?_
    refine V1 ?_
    have hok2 := hact2 hs (hok_logged hs)
    generalize act (HostS.logged s op page b) = s2 at *
    refine V5 ?_
    refine Zgo [(10, 10), (15, 15), (77, 87)] (by kernel_rfl) (fun i : Nat => i ≤ fl.length ∧ HostS.behind (fl.take i) = false) (fun _ => hostA p s2 :: faultsA (.slice fa fl.length fc) fl :: L2) (fun i => [(77, nvv i)]) (fun i => fl.length - i) 0 ⟨Nat.zero_le _, by with_unfolding_all rfl⟩ qI ⟨rfl, trivial⟩ ?_
    rintro j u2 ⟨hj, hno⟩
    refine V3 ?_
    refine Zgg rfl (fun hC => ?_) (fun hC => ?_)
    · refine Zgt (fun F w H => (fault_rd (M := _) qH).someAt (by omega) H) ?_
      rintro ⟨f1, f2, rfl⟩
      refine Y2 ?_
      refine Zfg rfl (((fault_rd qH).agN fcells_len (by omega) hC)) ?_
      refine Zhz (cs := #[.int .i64 0, .int .i64 0, .int .i64 0, .int .i64 0, u8b 0#8, .int .i64 0]) rfl ?_; intro b15
      first|refine Zhy rfl rfl qR qZ (by first|rfl|exact oneM_u8 _|exact oneL_u8 _|exact tcells_one _|assumption|(simp [oneC]; done)) qZ ?_|refine Zhx rfl rfl qR qZ (by first|rfl|exact oneM_u8 _|exact oneL_u8 _|exact tcells_one _|assumption|(simp [oneC]; done)) qZ rfl ?_
      refine V1 ?_
      by_cases h4 : fl[j].kind = 4
      · have hbh : HostS.behind fl = true := by
          with_unfolding_all unfold HostS.behind
          exact List.any_eq_true.2 ⟨_, List.getElem_mem hC, by simp [h4]⟩
        rw [if_pos hbh]
        refine Y2 ?_
        refine Zhp rfl qH ((by rfl)) ?_
        refine Zhg (Zbr (a := fl[j].kind) (b := 4) rfl rfl) ?_
        refine Zos 83 rfl (h4) ?_
        refine V2 ?_
        refine Zgp (Imp.arr (N := hostA p s2 :: L2) qV) ?_
        refine x_hostA fun t hs2 => ?_
        obtain ⟨bl', bc', la', lc'⟩ := t
        simp only [List.cons_append, List.nil_append]
        refine Y4 ?_
        refine Zht rfl rfl qR qZ (rfl) ?_
        refine V4 ?_
        refine rx1 (Zg9 rfl (Zg7)) ?_
        exact ⟨_, ⟨rfl, rfl⟩, (Imp.arr (N := hostP p { s2 with down := true } (bl', bc', la', lc') ++ L2) qV).trans (hostA_mk (ok_down true hok2))⟩
      · refine Y2 ?_
        refine Zhp rfl qH ((by rfl)) ?_
        refine Zhg (Zbr (a := fl[j].kind) (b := 4) rfl rfl) ?_
        refine Zot 83 rfl (h4) ?_
        refine V6 ?_
        exact Zgl (j + 1) qO ⟨by omega, by rw [behind_take fl j hC, hno]; simp [h4]⟩ qI ⟨rfl, trivial⟩
    · have hje : j = fl.length := by omega
      subst hje
      rw [List.take_length] at hno
      rw [if_neg (by rw [hno]; simp)]
      refine V3 ?_
      refine rx1 (Zg9 rfl (Zg7)) ?_
      exact ⟨_, ⟨rfl, rfl⟩, qI⟩
end
end Go.Sl
namespace Go.Sl
open Go Go.Proofs
attribute [local irreducible] pt own old pur ex all den denOps denS xOps xC cX CX xthen xblk xcut xloop xng retX resX Calls PV Rd Con
attribute [local irreducible] hostA omap ohole oheld rowsA faultsA HostS.spoil1 HostS.back
section
variable {p : Nat} {s : HostS.HS} {L : List Asrt}
theorem spoil_tk (page : Int) (fl : List HostS.Fault) (i : Nat) (hi : i < fl.length) : (fl.take (i + 1)).foldl (HostS.spoil1 s page) (HostS.back s page 0) = HostS.spoil1 s page ((fl.take i).foldl (HostS.spoil1 s page) (HostS.back s page 0)) fl[i] := take_fold page _ fl i hi
theorem own_put {g c n k : Nat} {b : List Byte} {rest : List Value} {v : Byte} {M : List Asrt} (hn : b.length = n) (hk : k < n) (hnc : n ≤ c) (hcm : c ≤ 9223372036854775807) (hr : rest.length + n * 1 = c * 1) : Imp (cl g ((b.map u8b ++ rest).toArray.setIfInBounds k (u8b v)) 5 :: M) (ownB (some ⟨g, 0, none⟩) c (b.set k v) :: M) := by
  have h := Imp.own_mk (E := 5) (size := 1) (n := (b.set k v).length) (cap := c) (g := g) (cur := (b.map u8b ++ rest).toArray.setIfInBounds k (u8b v)) (xs := (b.set k v).map u8b) (M := M) (by simp; omega) hcm (by simp; omega) (by
    simp [List.set_append, hn, hk, List.take_append, List.take_of_length_le, List.map_set])
  exact h
theorem spoilt_x {fv : Value} {fl : List HostS.Fault} (page : Int) (hf : Rd L 6 fv fl.length (fl.flatMap fcells)) (hfo : ∀ f ∈ fl, HostS.FOk f) (hfl : fl.length ≤ 9223372036854775806) (hops : s.ops ≤ 3518437208880) :
    Con Tryz.prog 298 [hp p, .int .i64 page, fv] (hostA p s :: L) (fun r M => ∃ a c, r = .slice a (HostS.spoilt s page fl).length c ∧ M = ownB a c (HostS.spoilt s page fl) :: hostA p s :: L) := by
  refine Con.get (fun w0 w F H => hf.len (H.enx Imp.tail)) ?_
  rintro ⟨fa, fc, rfl⟩
  refine Con.get (fun w0 w F H => host_ok .here H) ?_
  intro hs
  have hz1 := hs.z1
  have hlen := fun i => spoil_len hs page (fl.take i) (HostS.back s page 0) (back_len hs page 0)
  refine fn_y Tryz.func298 Tryz.mixed ?_
  intro w0
  refine Y6 ?_
  refine Zor (c := back_x page 0 (by omega) hops) (k := ?_)
  rintro _ _ ⟨a0, c0, rfl, rfl⟩
  refine V8 ?_
  refine Zgo [(7, 7), (9, 9), (15, 59)] (by kernel_rfl) (fun z : Nat × Option Addr × Nat => z.1 ≤ fl.length) (fun z => ownB z.2.1 z.2.2 ((fl.take z.1).foldl (HostS.spoil1 s page) (HostS.back s page 0)) :: hostA p s :: L) (fun z => [(15, nvv z.1), (7, .slice z.2.1 ((fl.take z.1).foldl (HostS.spoil1 s page) (HostS.back s page 0)).length z.2.2)]) (fun z => fl.length - z.1) (0, a0, c0) (Nat.zero_le _) qI ⟨rfl, rfl, trivial⟩ ?_
  rintro ⟨i, a, c⟩ u hi
  dsimp only at hi ⊢
  refine V3 ?_
  refine Zgg rfl (fun hB => ?_) (fun hB => ?_)
  · have htk := spoil_tk (s := s) page fl i hB
    have hli := hlen i
    have hfi := hfo _ (List.getElem_mem hB)
    generalize (fl.take i).foldl (HostS.spoil1 s page) (HostS.back s page 0) = b at *
    refine Zgt (fun F w H => (hf.imp (Imp.arr (M := _) qV)).someAt (by omega) H) ?_
    rintro ⟨f1, f2, rfl⟩
    have hone := fault_one fl[i]
    refine Y2 ?_
    refine Zfg rfl ((hf.imp qI).agN fcells_len (by omega) hB) ?_
    refine Zhz (cs := #[.int .i64 0, .int .i64 0, .int .i64 0, .int .i64 0, u8b 0#8, .int .i64 0]) rfl ?_; intro b9
    first|refine Zhy rfl rfl qR qZ (by first|rfl|exact oneM_u8 _|exact oneL_u8 _|exact tcells_one _|assumption|(simp [oneC]; done)) qZ ?_|refine Zhx rfl rfl qR qZ (by first|rfl|exact oneM_u8 _|exact oneL_u8 _|exact tcells_one _|assumption|(simp [oneC]; done)) qZ rfl ?_
    refine V1 ?_
    by_cases k0 : fl[i].kind = 0
    · by_cases hby : 0 ≤ fl[i].byte ∧ fl[i].byte < (b.length : Int)
      · obtain ⟨k, hk⟩ : ∃ k : Nat, fl[i].byte = k := ⟨fl[i].byte.toNat, by omega⟩
        have hkl : k < b.length := by omega
        have e : HostS.spoil1 s page b fl[i] = b.set k (b[k] ^^^ fl[i].by_) := by
          with_unfolding_all unfold HostS.spoil1
          rw [if_pos k0, if_pos hby, hk]
          simp [hkl]
        rw [e] at htk
        refine Y2 ?_
        refine Zhp rfl qH ((by rfl)) ?_
        refine Y2 ?_
        refine Zhg (Zbr (a := fl[i].kind) (b := 0) rfl rfl) ?_
        refine Zos 22 rfl (k0) ?_
        refine Y5 ?_
        refine Zhp rfl qH ((by rfl)) ?_
        refine Zhg (Zbq (a := fl[i].byte) (b := 0) rfl rfl) ?_
        refine Zos 25 rfl (hby.1) ?_
        refine Y2 ?_
        first|refine Y0 ?_|(refine Zhh rfl ?_; (refine Zhp rfl qH ((by rfl)) ?_))
        refine Y2 ?_
        first|refine Y0 ?_|(refine Zhh rfl ?_; (refine Zhg (Zbn (a := fl[i].byte) (b := (b.length : Int)) rfl rfl) ?_))
        refine Zos 31 rfl (hby.2) ?_
        refine V3 ?_
        refine Znz (E := 5) (sz := 1) (n := b.length) (a := a) (cp := c) qH (by omega) ?_
        rintro g rest rfl hnc hcm hr
        have hg : (b.map u8b ++ rest).toArray[k]? = some (u8b b[k]) := by simp [List.getElem?_append, hkl]
        have hsz : (b.map u8b ++ rest).toArray.size = c := by simp; omega
        refine Ct.o ?_
        refine Zij ([cl g (b.map u8b ++ rest).toArray 5, cl b9 (fcells fl[i]).toArray 119]) [6] (.q 0 (.q 1 (.q 5 (.r 2 (.q 3 (.r 4 (.r 6 (.q 7 (.q 8 (.e 9 false .nil)))))))))) (by kernel_rfl) (by kernel_rfl) (Imp.arr qV) ?_
        refine W3 ?_
        refine Ziv rfl rfl qH ((by rfl)) ?_
        refine Zim rfl (Zl4 (n := k) rfl (int_eq hk) hkl) ?_
        refine Ziv rfl rfl qH (hg) ?_
        refine Ziv rfl rfl qH ((by rfl)) ?_
        refine W1 ?_
        refine Zim rfl (Zl4 (n := k) rfl (int_eq hk) hkl) ?_
        refine Ziq rfl ?_
        refine Y1 ?_
        refine Zg3 ⟨(fun hh => Bool.noConfusion hh), ?_⟩
        refine Zik ?_
        refine Ct.o ?_
        have hpt := own_put (g := g) (c := c) (n := b.length) (k := k) (b := b) (rest := rest) (v := b[k] ^^^ fl[i].by_) (M := hostA p s :: L) rfl hkl hnc hcm hr
        refine V4 ?_
        refine Zgl (i + 1, some ⟨g, 0, none⟩, c) qO (by dsimp only; omega) ((Imp.arr (N := cl g ((b.map u8b ++ rest).toArray.setIfInBounds k (u8b (b[k] ^^^ fl[i].by_))) 5 :: hostA p s :: L) qV).trans (by dsimp only; rw [htk]; exact hpt)) ⟨rfl, ?_, trivial⟩
        dsimp only
        rw [htk, List.length_set]; rfl
      · have e : HostS.spoil1 s page b fl[i] = b := by
          with_unfolding_all unfold HostS.spoil1
          rw [if_pos k0, if_neg hby]
        rw [e] at htk
        refine Y2 ?_
        refine Zhp rfl qH ((by rfl)) ?_
        refine Y2 ?_
        refine Zhg (Zbr (a := fl[i].kind) (b := 0) rfl rfl) ?_
        refine Zos 22 rfl (k0) ?_
        refine V3 ?_
        by_cases hb0 : 0 ≤ fl[i].byte
        · refine Y2 ?_
          refine Zhp rfl qH ((by rfl)) ?_
          refine Zhg (Zbq (a := fl[i].byte) (b := 0) rfl rfl) ?_
          refine Zos 25 rfl (hb0) ?_
          refine Y2 ?_
          first|refine Y0 ?_|(refine Zhh rfl ?_; (refine Zhp rfl qH ((by rfl)) ?_))
          refine Y2 ?_
          first|refine Y0 ?_|(refine Zhh rfl ?_; (refine Zhg (Zbn (a := fl[i].byte) (b := (b.length : Int)) rfl rfl) ?_))
          refine Zot 31 rfl (fun hh => hby ⟨hb0, hh⟩) ?_
          refine V7 ?_
          exact Zgl (i + 1, a, c) qO (by dsimp only; omega) (by dsimp only; rw [htk]; exact qI) ⟨rfl, by dsimp only; rw [htk]; rfl, trivial⟩
        · refine Y2 ?_
          refine Zhp rfl qH ((by rfl)) ?_
          refine Zhg (Zbq (a := fl[i].byte) (b := 0) rfl rfl) ?_
          refine Zot 25 rfl (hb0) ?_
          refine V13 ?_
          exact Zgl (i + 1, a, c) qO (by dsimp only; omega) (by dsimp only; rw [htk]; exact qI) ⟨rfl, by dsimp only; rw [htk]; rfl, trivial⟩
    by_cases k1 : fl[i].kind = 1
    · have e : HostS.spoil1 s page b fl[i] = HostS.back s page fl[i].back := by
        with_unfolding_all unfold HostS.spoil1
        rw [if_neg k0, if_pos k1]
      rw [e] at htk
      refine Y2 ?_
      refine Zhp rfl qH ((by rfl)) ?_
      refine Y2 ?_
      refine Zhg (Zbr (a := fl[i].kind) (b := 0) rfl rfl) ?_
      refine Zot 22 rfl (k0) ?_
      refine Y4 ?_
      refine Zhg (Zbr (a := fl[i].kind) (b := 1) rfl rfl) ?_
      refine Zos 43 rfl (k1) ?_
      refine Y7 ?_
      refine Zhp rfl qH ((by rfl)) ?_
      refine Zor (c := back_x page fl[i].back ⟨hfi.b0, hfi.b1⟩ hops) (k := ?_)
      rintro _ _ ⟨a2, c2, rfl, rfl⟩
      refine V7 ?_
      exact Zgl (i + 1, a2, c2) qO (by dsimp only; omega) (by dsimp only; rw [htk]; exact qI) ⟨rfl, by dsimp only; rw [htk]; rfl, trivial⟩
    by_cases k2 : fl[i].kind = 2
    · by_cases hth : HostS.there s fl[i].page
      · have e : HostS.spoil1 s page b fl[i] = HostS.back s fl[i].page 0 := by
          with_unfolding_all unfold HostS.spoil1
          rw [if_neg k0, if_neg k1, if_pos k2, if_pos hth]
        rw [e] at htk
        refine Y2 ?_
        refine Zhp rfl qH ((by rfl)) ?_
        refine Y2 ?_
        refine Zhg (Zbr (a := fl[i].kind) (b := 0) rfl rfl) ?_
        refine Zot 22 rfl (k0) ?_
        refine Y4 ?_
        refine Zhg (Zbr (a := fl[i].kind) (b := 1) rfl rfl) ?_
        refine Zot 43 rfl (k1) ?_
        refine Y4 ?_
        refine Zhg (Zbr (a := fl[i].kind) (b := 2) rfl rfl) ?_
        refine Zos 50 rfl (k2) ?_
        refine Y6 ?_
        refine Zhp rfl qH ((by rfl)) ?_
        refine Zor (c := there_x fl[i].page) (k := ?_)
        rintro _ _ ⟨rfl, rfl⟩
        refine Y1 ?_
        refine Zos 54 rfl (hth) ?_
        refine Y5 ?_
        refine Zhp rfl qH ((by rfl)) ?_
        refine Zor (c := back_x fl[i].page 0 (by omega) hops) (k := ?_)
        rintro _ _ ⟨a2, c2, rfl, rfl⟩
        refine V7 ?_
        exact Zgl (i + 1, a2, c2) qO (by dsimp only; omega) (by dsimp only; rw [htk]; exact qI) ⟨rfl, by dsimp only; rw [htk]; rfl, trivial⟩
      · have e : HostS.spoil1 s page b fl[i] = b := by
          with_unfolding_all unfold HostS.spoil1
          rw [if_neg k0, if_neg k1, if_pos k2, if_neg hth]
        rw [e] at htk
        refine Y2 ?_
        refine Zhp rfl qH ((by rfl)) ?_
        refine Y2 ?_
        refine Zhg (Zbr (a := fl[i].kind) (b := 0) rfl rfl) ?_
        refine Zot 22 rfl (k0) ?_
        refine Y4 ?_
        refine Zhg (Zbr (a := fl[i].kind) (b := 1) rfl rfl) ?_
        refine Zot 43 rfl (k1) ?_
        refine Y4 ?_
        refine Zhg (Zbr (a := fl[i].kind) (b := 2) rfl rfl) ?_
        refine Zos 50 rfl (k2) ?_
        refine Y6 ?_
        refine Zhp rfl qH ((by rfl)) ?_
        refine Zor (c := there_x fl[i].page) (k := ?_)
        rintro _ _ ⟨rfl, rfl⟩
        refine Y1 ?_
        refine Zot 54 rfl (hth) ?_
        refine V6 ?_
        exact Zgl (i + 1, a, c) qO (by dsimp only; omega) (by dsimp only; rw [htk]; exact qI) ⟨rfl, by dsimp only; rw [htk]; rfl, trivial⟩
    · have e : HostS.spoil1 s page b fl[i] = b := by
        with_unfolding_all unfold HostS.spoil1
        rw [if_neg k0, if_neg k1, if_neg k2]
      rw [e] at htk
      refine Y2 ?_
      refine Zhp rfl qH ((by rfl)) ?_
      refine Y2 ?_
      refine Zhg (Zbr (a := fl[i].kind) (b := 0) rfl rfl) ?_
      refine Zot 22 rfl (k0) ?_
      refine Y4 ?_
      refine Zhg (Zbr (a := fl[i].kind) (b := 1) rfl rfl) ?_
      refine Zot 43 rfl (k1) ?_
      refine Y4 ?_
      refine Zhg (Zbr (a := fl[i].kind) (b := 2) rfl rfl) ?_
      refine Zot 50 rfl (k2) ?_
      refine V7 ?_
      exact Zgl (i + 1, a, c) qO (by dsimp only; omega) (by dsimp only; rw [htk]; exact qI) ⟨rfl, by dsimp only; rw [htk]; rfl, trivial⟩
  · have hie : i = fl.length := by omega
    subst hie
    rw [List.take_length]
    refine V4 ?_
    refine rx1 (Zhc rfl (Zg7)) ?_
    exact ⟨_, ⟨a, c, rfl, rfl⟩, qI⟩
abbrev readX (p : Nat) (page : Int) (n : Nat) (x : List Byte) (b2 b3 b6 : Nat) (t : Option Addr × Nat) : Asrt := all [cl b6 #[.slice t.1 n t.2] 66, own 5 1 (.slice t.1 n t.2) n (x.map u8b)]
theorem readf_x {page : Int} {b2 b3 b6 : Nat} {fv : Value} {fl : List HostS.Fault} {v0 : Value} (hfo : ∀ f ∈ fl, HostS.FOk f) (hfl : fl.length ≤ 9223372036854775806) (hops : s.ops ≤ 3518437208880) :
    Con Tryz.prog 297 [fv, .pointer (some ⟨b2, 0, none⟩), .pointer (some ⟨b3, 0, none⟩), .pointer (some ⟨b6, 0, none⟩)] (hostA p s :: faultsA fv fl :: [cl b2 #[hp p] 32, cl b3 #[.int .i64 page] 3, cl b6 #[v0] 66])
      (fun _ M => M = hostA p s :: faultsA fv fl :: [cl b2 #[hp p] 32, cl b3 #[.int .i64 page] 3, ex (readX p page (HostS.spoilt s page fl).length (HostS.spoilt s page fl) b2 b3 b6)]) := by
  refine Con.get (fun w0 w F H => faults_len (.there .here) H) ?_
  rintro ⟨fa, fc, rfl⟩
  refine fn_y Tryz.func297 Tryz.mixed ?_
  intro w0
  refine Y4 ?_
  refine Zor (c := spoilt_x (L := [faultsA (.slice fa fl.length fc) fl]) page (fault_rd .here) hfo hfl hops) (k := ?_)
  rintro _ _ ⟨a, c, rfl, rfl⟩
  refine V3 ?_
  refine rx0n ?_
  refine ⟨_, rfl, ?_⟩
  have h1 : Imp ([cl b6 #[.slice a (HostS.spoilt s page fl).length c] 66, ownB a c (HostS.spoilt s page fl)] ++ [hostA p s, faultsA (.slice fa fl.length fc) fl, cl b2 #[hp p] 32, cl b3 #[.int .i64 page] 3]) (ex (readX p page (HostS.spoilt s page fl).length (HostS.spoilt s page fl) b2 b3 b6) :: [hostA p s, faultsA (.slice fa fl.length fc) fl, cl b2 #[hp p] 32, cl b3 #[.int .i64 page] 3]) :=
    (Imp.app (L := [cl b6 #[.slice a (HostS.spoilt s page fl).length c] 66, ownB a c (HostS.spoilt s page fl)])).trans (Imp.exI (A := readX p page (HostS.spoilt s page fl).length (HostS.spoilt s page fl) b2 b3 b6) (a, c))
  simp only [List.cons_append, List.nil_append] at h1
  exact ((Imp.arr qV).trans h1).trans qI
theorem spoilt_lg (op page : Int) (b : HostS.Bytes) (q : Int) (fl : List HostS.Fault) : HostS.spoilt (HostS.logged s op page b) q fl = HostS.spoilt s q fl := by with_unfolding_all rfl
theorem read_x (page : Int) (hops : s.ops < 3518437208880) :
    Con Tryz.prog 292 [hp p, .int .i64 page] [hostA p s] (fun v M => ∃ a c, v = .tuple #[.slice a (HostS.readR s page).1.length c, nvv (HostS.readR s page).2.1] ∧ M = [ownB a c (HostS.readR s page).1, hostA p (HostS.readR s page).2.2]) := by
  refine Con.get (fun w0 w F H => host_ok .here H) ?_
  intro hs
  by_cases ht : HostS.there s page
  · by_cases hd : HostS.done s = true
    · have hy := fun b2 b3 b6 : Nat => does_yes (p := p) (s := s) (L := [cl b2 #[hp p] 32, cl b3 #[.int .i64 page] 3, cl b6 #[.slice none 0 0] 66]) (L2 := [cl b2 #[hp p] 32, cl b3 #[.int .i64 page] 3, ex (readX p page (HostS.spoilt s page (s.coming s.ops)).length (HostS.spoilt s page (s.coming s.ops)) b2 b3 b6)]) (F := 297) (cs := [.pointer (some ⟨b2, 0, none⟩), .pointer (some ⟨b3, 0, none⟩), .pointer (some ⟨b6, 0, none⟩)]) (b := []) (bv := .slice none 0 0) 0 page id Bs.nil (by simp) hd hops (by kernel_rfl) (fun _ h => h) (by
        show s.down = false
        unfold HostS.done at hd
        cases h : s.down with
        | false => rfl
        | true => rw [h] at hd; simp at hd) (fun fv => by
        have hh := readf_x (p := p) (s := HostS.logged s 0 page []) (page := page) (b2 := b2) (b3 := b3) (b6 := b6) (fv := fv) (fl := s.coming s.ops) (v0 := .slice none 0 0) (hs.flt _) (by have := hs.fln s.ops; omega) (by show s.ops + 1 ≤ _; omega)
        rw [spoilt_lg] at hh
        exact hh)
      have er : HostS.readR s page = if (HostS.does s 0 page [] id).2 = 0 then (HostS.spoilt s page (s.coming s.ops), 0, (HostS.does s 0 page [] id).1) else ([], (HostS.does s 0 page [] id).2, (HostS.does s 0 page [] id).1) := by
        unfold HostS.readR
        rw [if_pos ht]
      rw [er]
      generalize HostS.does s 0 page [] id = q at *
      refine fn_y Tryz.func292 Tryz.mixed ?_
      intro w0
      refine Y1 ?_
      refine Zh3 rfl ?_; intro b2
      refine Zh1 rfl ?_; intro b3
      refine Y6 ?_
      refine Zhn 9 rfl (rfl) ?_
      refine Y5 ?_
      refine Zor (c := there_x page) (k := ?_)
      rintro _ _ ⟨rfl, rfl⟩
      refine Y1 ?_
      refine Zhg (Zb0 rfl) ?_
      refine Zhn 13 rfl ((by rw [decide_eq_true ht]; rfl)) ?_
      refine Y3 ?_
      refine Zhz (cs := #[.slice none 0 0]) rfl ?_; intro b6
      refine Y5 ?_
      refine Zor (c := hy b2 b3 b6) (k := ?_)
      rintro _ _ ⟨rfl, rfl⟩
      refine V3 ?_
      by_cases h0 : q.2 = 0
      · rw [if_pos h0]
        refine Y3 ?_
        refine Zot 19 rfl (fun hh => hh h0) ?_
        refine V2 ?_
        refine Zgp (Imp.arr (N := ex (readX p page (HostS.spoilt s page (s.coming s.ops)).length (HostS.spoilt s page (s.coming s.ops)) b2 b3 b6) :: [hostA p q.1]) qV) ?_
        refine Zgr fun t => Zgs (L := [cl b6 #[.slice t.1 (HostS.spoilt s page (s.coming s.ops)).length t.2] 66, own 5 1 (.slice t.1 (HostS.spoilt s page (s.coming s.ops)).length t.2) (HostS.spoilt s page (s.coming s.ops)).length ((HostS.spoilt s page (s.coming s.ops)).map u8b)]) ?_
        simp only [List.cons_append, List.nil_append]
        refine V5 ?_
        refine rx2 (Zhc rfl (Zg9 rfl (Zg7))) ?_
        exact ⟨_, ⟨t.1, t.2, rfl, rfl⟩, qI⟩
      · rw [if_neg h0]
        refine Y3 ?_
        refine Zos 19 rfl (h0) ?_
        refine V7 ?_
        refine rx2 (Zhc rfl (Zg9 rfl (Zg7))) ?_
        exact ⟨_, ⟨none, 0, rfl, rfl⟩, (Imp.arr (N := [hostA p q.1]) qV).trans Imp.own_nil⟩
    · have hd : HostS.done s = false := by simpa using hd
      have hn := fun b2 b3 b6 : Nat => does_no (p := p) (s := s) (F := 297) (cs := [.pointer (some ⟨b2, 0, none⟩), .pointer (some ⟨b3, 0, none⟩), .pointer (some ⟨b6, 0, none⟩)]) (bv := .slice none 0 0) 0 page [] id hd hops
      have hz := does_zero (s := s) (op := 0) (page := page) (b := []) (act := id) hd
      have er : HostS.readR s page = ([], 110, (HostS.does s 0 page [] id).1) := by
        unfold HostS.readR
        rw [if_pos ht]
        dsimp only
        rw [hz]; rfl
      rw [er]
      generalize HostS.does s 0 page [] id = q at *
      refine fn_y Tryz.func292 Tryz.mixed ?_
      intro w0
      refine Y1 ?_
      refine Zh3 rfl ?_; intro b2
      refine Zh1 rfl ?_; intro b3
      refine Y6 ?_
      refine Zhn 9 rfl (rfl) ?_
      refine Y5 ?_
      refine Zor (c := there_x page) (k := ?_)
      rintro _ _ ⟨rfl, rfl⟩
      refine Y1 ?_
      refine Zhg (Zb0 rfl) ?_
      refine Zhn 13 rfl ((by rw [decide_eq_true ht]; rfl)) ?_
      refine Y3 ?_
      refine Zhz (cs := #[.slice none 0 0]) rfl ?_; intro b6
      refine Y5 ?_
      refine Zor (c := hn b2 b3 b6) (k := ?_)
      rintro _ _ ⟨rfl, rfl⟩
      refine Y6 ?_
      refine Zos 19 rfl ((show (110 : Nat) ≠ 0 by omega)) ?_
      refine V7 ?_
      refine rx2 (Zhc rfl (Zg9 rfl (Zg7))) ?_
      exact ⟨_, ⟨none, 0, rfl, rfl⟩, (Imp.arr (N := [hostA p q.1]) qV).trans Imp.own_nil⟩
  · have er : HostS.readR s page = ([], 2, s) := by
      unfold HostS.readR
      rw [if_neg ht]
    rw [er]
    refine fn_y Tryz.func292 Tryz.mixed ?_
    intro w0
    refine Y1 ?_
    refine Zh3 rfl ?_; intro b2
    refine Zh1 rfl ?_; intro b3
    refine Y6 ?_
    refine Zhn 9 rfl (rfl) ?_
    refine Y5 ?_
    refine Zor (c := there_x page) (k := ?_)
    rintro _ _ ⟨rfl, rfl⟩
    refine Y1 ?_
    refine Zhg (Zb0 rfl) ?_
    refine Zhm 13 rfl ((by rw [decide_eq_false ht]; rfl)) ?_
    refine V6 ?_
    refine rx2 (Zhc rfl (Zg9 rfl (Zg7))) ?_
    exact ⟨_, ⟨none, 0, rfl, rfl⟩, (Imp.arr (N := [hostA p s]) qV).trans Imp.own_nil⟩
end
end Go.Sl
namespace Go.Sl
open Go Go.Proofs
attribute [local irreducible] pt own old pur ex all den denOps denS xOps xC cX CX xthen xblk xcut xloop xng retX resX Calls PV Rd Con
attribute [local irreducible] hostA omap ohole oheld rowsA faultsA HostS.spoil1 HostS.back
section
variable {p : Nat} {s : HostS.HS} {L : List Asrt}
theorem writef_x {page : Int} {b3 b4 b5 : Nat} {fv bv : Value} {b : List Byte} {fl : List HostS.Fault} (hb : Bs L bv b) (hbl : b.length ≤ 4124) (hops : s.ops ≤ 3518437208880) (hok : HostS.Ok (HostS.wrote page b s)) :
    Con Tryz.prog 299 [fv, .pointer (some ⟨b3, 0, none⟩), .pointer (some ⟨b4, 0, none⟩), .pointer (some ⟨b5, 0, none⟩)] (hostA p s :: faultsA fv fl :: cl b3 #[hp p] 32 :: cl b4 #[.int .i64 page] 3 :: cl b5 #[bv] 66 :: L)
      (fun _ M => M = hostA p (HostS.wrote page b s) :: faultsA fv fl :: cl b3 #[hp p] 32 :: cl b4 #[.int .i64 page] 3 :: cl b5 #[bv] 66 :: L) := by
  refine Con.get (fun w0 w F H => hb.sh _ _ _ (H.enx (Imp.tail.trans (Imp.tail.trans (Imp.tail.trans (Imp.tail.trans Imp.tail)))))) ?_
  rintro ⟨ba, bcp, rfl, hbc, hbcm⟩
  refine Con.hostA fun c hs => ?_
  obtain ⟨bl, bc, la, lc⟩ := c
  simp only [List.cons_append, List.nil_append, List.append_nil]
  have hmany := hs.many page
  refine fn_y Tryz.func299 Tryz.mixed ?_
  intro w0
  refine Zgp (Imp.arr (N := omap bl rowsA [] s.lay :: cl p (hcl s (bl, bc, la, lc)) 141 :: omap bc faultsA [] s.coming :: ownLog la lc s.log :: faultsA fv fl :: cl b3 #[hp p] 32 :: cl b4 #[.int .i64 page] 3 :: cl b5 #[.slice ba b.length bcp] 66 :: L) qV) ?_
  refine Zom rows_nil page ?_
  intro v
  refine x_rows fun vs hvs => ?_
  have hvl : vs.length = (s.lay page).length := by rw [← hvs, List.length_map]
  refine Zgt (fun F w H => own_shape (H.pick (.there .here))) ?_
  rintro ⟨ra, rc, rfl, hrc, hrcm⟩
  refine Zgp (Imp.own_nil (E := 5) (size := 1)) ?_
  refine Ct.o ?_
  refine Zij ([cl p (hcl s (bl, bc, la, lc)) 141, cl b3 #[hp p] 32, cl b4 #[.int .i64 page] 3, cl b5 #[.slice ba b.length bcp] 66, ohole bl rowsA [] s.lay page (.slice ra vs.length rc)]) [4, 5, 6, 7, 8, 9, 10, 11, 12, 13, 14] (.r 0 (.q 1 (.q 2 (.r 3 (.r 4 (.r 5 (.r 6 (.r 7 (.r 8 (.r 9 (.r 10 (.r 11 (.e 12 true (.e 13 true (.e 14 true (.e 15 false .nil)))))))))))))))) (by kernel_rfl) (by kernel_rfl) (Imp.arr qV) ?_
  refine W10 ?_
  refine Zon rfl rfl rfl qH ?_
  refine W1 ?_
  refine Ziq rfl ?_
  refine Zia rfl rfl qH (hb.rd.imp qI) (by first|rfl|exact oneM_u8 _|exact oneL_u8 _|exact tcells_one _|assumption|(simp [oneC]; done)) (by omega) qS ?_; intro a2 c2
  refine Zg3 ⟨fun _ => Imp.arr qV, ?_⟩
  refine Ziq rfl ?_
  refine Zh7 (cs := #[.slice _ _ _]) (by omega) (by omega) rfl ?_; intro b18
  refine Zg3 ⟨fun _ => Imp.arr qV, ?_⟩
  refine Ziq rfl ?_
  refine Zia rfl rfl qH (Rd.cl (xs := [.slice a2 (0 + b.length) c2]) qH rfl qZ rfl) (by first|rfl|exact oneM_u8 _|exact oneL_u8 _|exact tcells_one _|assumption|(simp [oneC]; done)) (by omega) qS ?_; intro a3 c3
  refine Zg3 ⟨fun _ => Imp.arr qV, ?_⟩
  refine Ziq rfl ?_; refine Zih rfl rfl rfl qR ?_; refine Zg3 ⟨(fun hh => Bool.noConfusion hh), ?_⟩
  refine Zik ?_
  refine Ct.o ?_
  rw [Nat.zero_add, List.nil_append]
  refine rx0n ?_
  refine ⟨_, rfl, ?_⟩
  have e1 : (vs ++ [((.slice a2 b.length c2 : Value), b)]).length = vs.length + 1 := by simp
  have e2 : (vs ++ [((.slice a2 b.length c2 : Value), b)]).map (·.1) = vs.map (·.1) ++ [.slice a2 b.length c2] := by simp
  have e3 : (vs ++ [((.slice a2 b.length c2 : Value), b)]).map (·.2) = s.lay page ++ [b] := by simp [hvs]
  have h1 : Imp (rowE ((.slice a2 b.length c2 : Value), b) :: star rowE vs :: own 66 1 (.slice a3 (vs.length + 1) c3) (vs.length + 1) (vs.map (·.1) ++ [.slice a2 b.length c2]) :: oheld bl rowsA [] s.lay page (.slice a3 (vs.length + 1) c3) :: cl p (hcl s (bl, bc, la, lc)) 141 :: omap bc faultsA [] s.coming :: ownLog la lc s.log :: faultsA fv fl :: cl b3 #[hp p] 32 :: cl b4 #[.int .i64 page] 3 :: cl b5 #[.slice ba b.length bcp] 66 :: L) (hostA p (HostS.wrote page b s) :: faultsA fv fl :: cl b3 #[hp p] 32 :: cl b4 #[.int .i64 page] 3 :: cl b5 #[.slice ba b.length bcp] 66 :: L) := by
    refine star_snoc.trans ?_
    have h2 := rows_mk (v := .slice a3 (vs.length + 1) c3) (L := oheld bl rowsA [] s.lay page (.slice a3 (vs.length + 1) c3) :: cl p (hcl s (bl, bc, la, lc)) 141 :: omap bc faultsA [] s.coming :: ownLog la lc s.log :: faultsA fv fl :: cl b3 #[hp p] 32 :: cl b4 #[.int .i64 page] 3 :: cl b5 #[.slice ba b.length bcp] 66 :: L) e3
    rw [e1, e2] at h2
    have h3 := hostA_mk (p := p) (c := (bl, bc, la, lc)) (L := faultsA fv fl :: cl b3 #[hp p] 32 :: cl b4 #[.int .i64 page] 3 :: cl b5 #[.slice ba b.length bcp] 66 :: L) hok
    simp only [List.cons_append, List.nil_append] at h3
    exact (Imp.swap.trans h2).trans (Imp.oheld_close.trans ((Imp.arr qV).trans h3))
  exact (Imp.arr qV).trans h1
theorem write_x (page : Int) {bv : Value} {b : List Byte} (hb : Bs L bv b) (hops : s.ops < 3518437208880) (hlen : b.length < 9223372036854775808) :
    Con Tryz.prog 294 [hp p, .int .i64 page, bv] (hostA p s :: L) (fun v M => v = nvv (HostS.writeR s page b).1 ∧ M = hostA p (HostS.writeR s page b).2 :: L) := by
  refine Con.get (fun w0 w F H => host_ok .here H) ?_
  intro hs
  refine Con.get (fun w0 w F H => hb.sh _ _ _ (H.enx Imp.tail)) ?_
  rintro ⟨ba, bcp, rfl, hbc, hbcm⟩
  by_cases ht : HostS.there s page
  · by_cases hl : b.length = s.size
    · have er : HostS.writeR s page b = ((HostS.does s 1 page b (HostS.wrote page b)).2, (HostS.does s 1 page b (HostS.wrote page b)).1) := by
        unfold HostS.writeR
        rw [if_pos ht, if_pos hl]
      rw [er]
      have hz1 := hs.z1
      by_cases hd : HostS.done s = true
      · have hy := fun b3 b4 b5 : Nat => does_yes (p := p) (s := s) (L := cl b3 #[hp p] 32 :: cl b4 #[.int .i64 page] 3 :: cl b5 #[.slice ba b.length bcp] 66 :: L) (L2 := cl b3 #[hp p] 32 :: cl b4 #[.int .i64 page] 3 :: cl b5 #[.slice ba b.length bcp] 66 :: L) (F := 299) (cs := [.pointer (some ⟨b3, 0, none⟩), .pointer (some ⟨b4, 0, none⟩), .pointer (some ⟨b5, 0, none⟩)]) (b := b) (bv := .slice ba b.length bcp) 1 page (HostS.wrote page b) (hb.imp (Imp.tail.trans (Imp.tail.trans Imp.tail))) (by omega) hd hops (by kernel_rfl) (fun h0 h1 => ok_wrote page 1 b hl h0 h1) (by
          show s.down = false
          unfold HostS.done at hd
          cases h : s.down with
          | false => rfl
          | true => rw [h] at hd; simp at hd) (fun fv => writef_x (p := p) (s := HostS.logged s 1 page b) (page := page) (b3 := b3) (b4 := b4) (b5 := b5) (fv := fv) (fl := s.coming s.ops) hb (by omega) (by show s.ops + 1 ≤ _; omega) (ok_wrote page 1 b hl hs (hok_logged hs)))
        generalize HostS.does s 1 page b (HostS.wrote page b) = q at *
        refine fn_y Tryz.func294 Tryz.mixed ?_
        intro w0
        refine Y1 ?_
        refine Zh3 rfl ?_; intro b3
        refine Zh1 rfl ?_; intro b4
        refine Zh4 rfl ?_; intro b5
        refine Y5 ?_
        refine Zhn 9 rfl (rfl) ?_
        refine Y6 ?_
        refine Zor (c := there_x page) (k := ?_)
        rintro _ _ ⟨rfl, rfl⟩
        refine Y1 ?_
        refine Zhg (Zb0 rfl) ?_
        refine Zhn 14 rfl ((by rw [decide_eq_true ht]; rfl)) ?_
        refine V3 ?_
        refine Zgp (Imp.arr (N := hostA p s :: cl b3 #[hp p] 32 :: cl b4 #[.int .i64 page] 3 :: cl b5 #[.slice ba b.length bcp] 66 :: L) qV) ?_
        refine x_hostA (L := cl b3 #[hp p] 32 :: cl b4 #[.int .i64 page] 3 :: cl b5 #[.slice ba b.length bcp] 66 :: L) fun c hs => ?_
        simp only [List.cons_append, List.nil_append]
        refine Ct.o ?_
        refine Zij ([cl p (hcl s c) 141, cl b3 #[hp p] 32, cl b5 #[.slice ba b.length bcp] 66]) [2, 3, 4, 5] (.r 0 (.q 1 (.r 2 (.r 3 (.r 4 (.r 5 (.q 6 (.q 7 .nil)))))))) (by kernel_rfl) (by kernel_rfl) (Imp.arr qV) ?_
        refine W7 ?_
        refine Zov 22 rfl (fun hh => hh hl) ?_
        refine W2 ?_
        refine V1 ?_
        refine Zgp ((Imp.arr (N := hostP p s c ++ (cl b3 #[hp p] 32 :: cl b4 #[.int .i64 page] 3 :: cl b5 #[.slice ba b.length bcp] 66 :: L)) qV).trans (hostA_mk hs)) ?_
        refine Y5 ?_
        refine Zor (c := hy b3 b4 b5) (k := ?_)
        rintro _ _ ⟨rfl, rfl⟩
        refine V3 ?_
        refine rx1 (Zg9 rfl (Zg7)) ?_
        exact ⟨_, ⟨rfl, rfl⟩, qI⟩
      · have hd : HostS.done s = false := by simpa using hd
        have hn := fun b3 b4 b5 : Nat => does_no (p := p) (s := s) (F := 299) (cs := [.pointer (some ⟨b3, 0, none⟩), .pointer (some ⟨b4, 0, none⟩), .pointer (some ⟨b5, 0, none⟩)]) (bv := .slice ba b.length bcp) 1 page b (HostS.wrote page b) hd hops
        have hz := does_zero (s := s) (op := 1) (page := page) (b := b) (act := HostS.wrote page b) hd
        rw [hz]
        generalize HostS.does s 1 page b (HostS.wrote page b) = q at *
        refine fn_y Tryz.func294 Tryz.mixed ?_
        intro w0
        refine Y1 ?_
        refine Zh3 rfl ?_; intro b3
        refine Zh1 rfl ?_; intro b4
        refine Zh4 rfl ?_; intro b5
        refine Y5 ?_
        refine Zhn 9 rfl (rfl) ?_
        refine Y6 ?_
        refine Zor (c := there_x page) (k := ?_)
        rintro _ _ ⟨rfl, rfl⟩
        refine Y1 ?_
        refine Zhg (Zb0 rfl) ?_
        refine Zhn 14 rfl ((by rw [decide_eq_true ht]; rfl)) ?_
        refine V3 ?_
        refine Zgp (Imp.arr (N := hostA p s :: cl b3 #[hp p] 32 :: cl b4 #[.int .i64 page] 3 :: cl b5 #[.slice ba b.length bcp] 66 :: L) qV) ?_
        refine x_hostA (L := cl b3 #[hp p] 32 :: cl b4 #[.int .i64 page] 3 :: cl b5 #[.slice ba b.length bcp] 66 :: L) fun c hs => ?_
        simp only [List.cons_append, List.nil_append]
        refine Ct.o ?_
        refine Zij ([cl p (hcl s c) 141, cl b3 #[hp p] 32, cl b5 #[.slice ba b.length bcp] 66]) [2, 3, 4, 5] (.r 0 (.q 1 (.r 2 (.r 3 (.r 4 (.r 5 (.q 6 (.q 7 .nil)))))))) (by kernel_rfl) (by kernel_rfl) (Imp.arr qV) ?_
        refine W7 ?_
        refine Zov 22 rfl (fun hh => hh hl) ?_
        refine W2 ?_
        refine V1 ?_
        refine Zgp ((Imp.arr (N := hostP p s c ++ (cl b3 #[hp p] 32 :: cl b4 #[.int .i64 page] 3 :: cl b5 #[.slice ba b.length bcp] 66 :: L)) qV).trans (hostA_mk hs)) ?_
        refine Y5 ?_
        refine Zor (c := hn b3 b4 b5) (k := ?_)
        rintro _ _ ⟨rfl, rfl⟩
        refine V3 ?_
        refine rx1 (Zg9 rfl (Zg7)) ?_
        exact ⟨_, ⟨rfl, rfl⟩, qI⟩
    · have er : HostS.writeR s page b = (4, s) := by
        unfold HostS.writeR
        rw [if_pos ht, if_neg hl]
      rw [er]
      refine fn_y Tryz.func294 Tryz.mixed ?_
      intro w0
      refine Y1 ?_
      refine Zh3 rfl ?_; intro b3
      refine Zh1 rfl ?_; intro b4
      refine Zh4 rfl ?_; intro b5
      refine Y5 ?_
      refine Zhn 9 rfl (rfl) ?_
      refine Y6 ?_
      refine Zor (c := there_x page) (k := ?_)
      rintro _ _ ⟨rfl, rfl⟩
      refine Y1 ?_
      refine Zhg (Zb0 rfl) ?_
      refine Zhn 14 rfl ((by rw [decide_eq_true ht]; rfl)) ?_
      refine V3 ?_
      refine Zgp (Imp.arr (N := hostA p s :: cl b3 #[hp p] 32 :: cl b4 #[.int .i64 page] 3 :: cl b5 #[.slice ba b.length bcp] 66 :: L) qV) ?_
      refine x_hostA (L := cl b3 #[hp p] 32 :: cl b4 #[.int .i64 page] 3 :: cl b5 #[.slice ba b.length bcp] 66 :: L) fun c hs => ?_
      simp only [List.cons_append, List.nil_append]
      refine Ct.o ?_
      refine Zij ([cl p (hcl s c) 141, cl b3 #[hp p] 32, cl b5 #[.slice ba b.length bcp] 66]) [2, 3, 4, 5] (.r 0 (.q 1 (.r 2 (.r 3 (.r 4 (.r 5 (.q 6 (.q 7 .nil)))))))) (by kernel_rfl) (by kernel_rfl) (Imp.arr qV) ?_
      refine W7 ?_
      refine Zou 22 rfl (hl) ?_
      refine W2 ?_
      refine V4 ?_
      refine rx1 (Zg9 rfl (Zg7)) ?_
      exact ⟨_, ⟨rfl, rfl⟩, (Imp.arr (N := hostP p s c ++ L) qV).trans (hostA_mk hs)⟩
  · have er : HostS.writeR s page b = (2, s) := by
      unfold HostS.writeR
      rw [if_neg ht]
    rw [er]
    refine fn_y Tryz.func294 Tryz.mixed ?_
    intro w0
    refine Y1 ?_
    refine Zh3 rfl ?_; intro b3
    refine Zh1 rfl ?_; intro b4
    refine Zh4 rfl ?_; intro b5
    refine Y5 ?_
    refine Zhn 9 rfl (rfl) ?_
    refine Y6 ?_
    refine Zor (c := there_x page) (k := ?_)
    rintro _ _ ⟨rfl, rfl⟩
    refine Y1 ?_
    refine Zhg (Zb0 rfl) ?_
    refine Zhm 14 rfl ((by rw [decide_eq_false ht]; rfl)) ?_
    refine V6 ?_
    refine rx1 (Zg9 rfl (Zg7)) ?_
    exact ⟨_, ⟨rfl, rfl⟩, qI⟩
end
end Go.Sl
namespace Go.Sl
open Go Go.Proofs
attribute [local irreducible] pt own old pur ex all den denOps denS xOps xC cX CX xthen xblk xcut xloop xng retX resX Calls PV Rd Con
attribute [local irreducible] hostA omap ohole oheld rowsA faultsA HostS.back
section
variable {p : Nat} {s : HostS.HS}
theorem log_x (hops : s.ops ≤ 3518437208880) : Con Tryz.prog 24 [hp p] [hostA p s] (fun v M => ∃ a c, v = .slice a s.log.length c ∧ M = [ownLog a c s.log, hostA p s]) := by
  refine Con.hostA fun c hs => ?_
  obtain ⟨bl, bc, la, lc⟩ := c
  simp only [List.cons_append, List.nil_append]
  have hll := hs.log
  have hlo := log_one s.log (by omega)
  refine fn_y Tryz.func24 Tryz.mixed ?_
  intro w0
  refine Y6 ?_
  refine Zhn 4 rfl (rfl) ?_
  refine V2 ?_
  refine Zgp (Imp.own_nil (E := 158) (size := 15)) ?_
  refine Y5 ?_
  refine Zia rfl rfl qH ((Rd.own (E := 158) qH)) (by first|rfl|exact oneM_u8 _|exact oneL_u8 _|assumption|(simp [oneC]; done)) (by omega) qS ?_; intro a2 c2
  refine V2 ?_
  refine rx1 (Zhc rfl (Zg7)) ?_
  rw [Nat.zero_add, List.nil_append]
  refine ⟨_, ⟨a2, c2, rfl, rfl⟩, ?_⟩
  exact (Imp.arr (N := ownLog a2 c2 s.log :: (hostP p s (bl, bc, la, lc) ++ [])) qV).trans (Imp.cons (hostA_mk hs))
end
end Go.Sl
namespace Go.Sl
open Go Go.Proofs
attribute [local irreducible] pt own old pur ex all den denOps denS xOps xC cX CX xthen xblk xcut xloop xng retX resX Calls PV Rd Con
attribute [local irreducible] hostA omap ohole oheld rowsA
section
variable {L : List Asrt}
abbrev ncl (pages : Int) (sz bl bc : Nat) : Array Value := #[.int .i64 pages, nvv sz, .map (some bl), u64b 0#64, .map (some bc), .int .i64 0, .slice none 0 0, .int .i64 0]
theorem coming_len (fl : List HostS.Fault) (i : Nat) (k : Int) : (HostS.comes (fl.take i) k).length ≤ fl.length := by
  have := List.length_filter_le (fun g : HostS.Fault => g.at_ == k) (fl.take i)
  have h2 := List.length_take_le' i fl
  simp only [HostS.comes]; omega
theorem hold_one {bc : Nat} {cm : Int → List HostS.Fault} {f : HostS.Fault} {a : Option Addr} {c : Nat} {M : List Asrt} : Imp (own 119 6 (.slice a ((cm f.at_).length + 1) c) ((cm f.at_).length + 1) ((cm f.at_).flatMap fcells ++ fcells f) :: oheld bc faultsA [] cm f.at_ (.slice a ((cm f.at_).length + 1) c) :: M) (omap bc faultsA [] (upd cm f.at_ (cm f.at_ ++ [f])) :: M) := by
  have h := Imp.oheld_close (A := faultsA) (d := []) (f := cm) (k := f.at_) (x := cm f.at_ ++ [f]) (v := .slice a ((cm f.at_).length + 1) c) (b := bc) (M := M)
  unfold faultsA at h ⊢
  rw [show (cm f.at_ ++ [f]).length = (cm f.at_).length + 1 by simp, show (cm f.at_ ++ [f]).flatMap fcells = (cm f.at_).flatMap fcells ++ fcells f by simp] at h
  exact h
theorem hnew_c (pages size : Int) {fv : Value} {fl : List HostS.Fault} (hfl : fl.length ≤ 2932031007401) (hfo : ∀ f ∈ fl, HostS.FOk f) (hf : Rd L 6 fv fl.length (fl.flatMap fcells)) :
    Con Tryz.prog 19 [.int .i64 pages, .int .i64 size, fv] L (fun v M => (HostS.mayBe pages size fl ∧ ∃ p, v = .tuple #[hp p, nvv 0] ∧ M = hostA p (HostS.fresh pages size.toNat fl) :: L) ∨ (¬ HostS.mayBe pages size fl ∧ v = .tuple #[.pointer none, nvv 2] ∧ M = L)) := by
  refine Con.get (fun w0 w F H => hf.len H) ?_
  rintro ⟨fa, fc, rfl⟩
  by_cases h0 : pages < 0
  · have hno : ¬ HostS.mayBe pages size fl := fun h => by have := h.1; omega
    refine fn_y Tryz.func19 Tryz.mixed ?_
    intro w0
    refine Y6 ?_
    refine Zhg (Zbn (a := pages) (b := 0) rfl rfl) ?_
    refine Zos 12 rfl (h0) ?_
    refine V18 ?_
    refine rx2 (Zhb rfl (Zg9 rfl (Zg7))) ?_
    exact ⟨_, .inr ⟨hno, rfl, rfl⟩, qI⟩
  by_cases h1 : pages > 65536
  · have hno : ¬ HostS.mayBe pages size fl := fun h => by have := h.1; omega
    refine fn_y Tryz.func19 Tryz.mixed ?_
    intro w0
    refine Y6 ?_
    refine Zhg (Zbn (a := pages) (b := 0) rfl rfl) ?_
    refine Zot 12 rfl (h0) ?_
    refine Y2 ?_
    first|refine Y0 ?_|(refine Zhh rfl ?_; (refine Zhg (Zbp (a := pages) (b := 65536) rfl rfl) ?_))
    refine Zos 15 rfl (h1) ?_
    refine V15 ?_
    refine rx2 (Zhb rfl (Zg9 rfl (Zg7))) ?_
    exact ⟨_, .inr ⟨hno, rfl, rfl⟩, qI⟩
  by_cases h2 : size < 1
  · have hno : ¬ HostS.mayBe pages size fl := fun h => by have := h.1; omega
    refine fn_y Tryz.func19 Tryz.mixed ?_
    intro w0
    refine Y6 ?_
    refine Zhg (Zbn (a := pages) (b := 0) rfl rfl) ?_
    refine Zot 12 rfl (h0) ?_
    refine Y2 ?_
    first|refine Y0 ?_|(refine Zhh rfl ?_; (refine Zhg (Zbp (a := pages) (b := 65536) rfl rfl) ?_))
    refine Zot 15 rfl (h1) ?_
    refine Y3 ?_
    first|refine Y0 ?_|(refine Zhh rfl ?_; (refine Zhg (Zbn (a := size) (b := 1) rfl rfl) ?_))
    refine Zos 19 rfl (h2) ?_
    refine V11 ?_
    refine rx2 (Zhb rfl (Zg9 rfl (Zg7))) ?_
    exact ⟨_, .inr ⟨hno, rfl, rfl⟩, qI⟩
  by_cases h3 : size > 4124
  · have hno : ¬ HostS.mayBe pages size fl := fun h => by have := h.1; omega
    refine fn_y Tryz.func19 Tryz.mixed ?_
    intro w0
    refine Y6 ?_
    refine Zhg (Zbn (a := pages) (b := 0) rfl rfl) ?_
    refine Zot 12 rfl (h0) ?_
    refine Y2 ?_
    first|refine Y0 ?_|(refine Zhh rfl ?_; (refine Zhg (Zbp (a := pages) (b := 65536) rfl rfl) ?_))
    refine Zot 15 rfl (h1) ?_
    refine Y3 ?_
    first|refine Y0 ?_|(refine Zhh rfl ?_; (refine Zhg (Zbn (a := size) (b := 1) rfl rfl) ?_))
    refine Zot 19 rfl (h2) ?_
    refine Y3 ?_
    first|refine Y0 ?_|(refine Zhh rfl ?_; (refine Zhg (Zbp (a := size) (b := 4124) rfl rfl) ?_))
    refine Zos 23 rfl (h3) ?_
    refine V7 ?_
    refine rx2 (Zhb rfl (Zg9 rfl (Zg7))) ?_
    exact ⟨_, .inr ⟨hno, rfl, rfl⟩, qI⟩
  have hfit : 0 ≤ pages ∧ pages ≤ 65536 ∧ 1 ≤ size ∧ size ≤ 4124 := by omega
  obtain ⟨sz, rfl⟩ : ∃ sz : Nat, size = (sz : Int) := ⟨size.toNat, by omega⟩
  refine fn_y Tryz.func19 Tryz.mixed ?_
  intro w0
  refine Y6 ?_
  refine Zhg (Zbn (a := pages) (b := 0) rfl rfl) ?_
  refine Zot 12 rfl (h0) ?_
  refine Y2 ?_
  first|refine Y0 ?_|(refine Zhh rfl ?_; (refine Zhg (Zbp (a := pages) (b := 65536) rfl rfl) ?_))
  refine Zot 15 rfl (h1) ?_
  refine Y3 ?_
  first|refine Y0 ?_|(refine Zhh rfl ?_; (refine Zhg (Zbn (a := (sz : Int)) (b := 1) rfl rfl) ?_))
  refine Zot 19 rfl (h2) ?_
  refine Y3 ?_
  first|refine Y0 ?_|(refine Zhh rfl ?_; (refine Zhg (Zbp (a := (sz : Int)) (b := 4124) rfl rfl) ?_))
  refine Zot 23 rfl (h3) ?_
  refine Y6 ?_
  refine Zif rowsA [] ?_; intro bl
  refine Zif faultsA [] ?_; intro bc
  refine Zhg (Zdm (cs := ncl pages sz bl bc) (by kernel_rfl)) ?_
  refine Zh5 rfl ?_; intro p
  refine V7 ?_
  refine Zgo [(6, 7), (10, 10), (33, 61)] (by kernel_rfl) (fun i : Nat => i ≤ fl.length ∧ (fl.take i).all HostS.kindly = true) (fun i => omap bc faultsA [] (HostS.comes (fl.take i)) :: cl p (ncl pages sz bl bc) 141 :: omap bl rowsA [] (fun _ => []) :: L) (fun i => [(33, nvv i)]) (fun i => fl.length - i) 0 ⟨Nat.zero_le _, rfl⟩ qI ⟨rfl, trivial⟩ ?_
  rintro i u ⟨hi, hk⟩
  refine V3 ?_
  refine Zgg rfl (fun hB => ?_) (fun hB => ?_)
  · have hnext := comes_take fl i hB
    have hkn := kindly_take fl i hB
    have hno := kindly_no i hB
    have hcl := coming_len fl i fl[i].at_
    refine Zgt (fun F w H => (hf.imp (Imp.arr (M := _) qV)).someAt (by omega) H) ?_
    rintro ⟨f1, f2, rfl⟩
    refine Y2 ?_
    refine Zfg rfl ((hf.imp qI).agN fcells_len (by omega) hB) ?_
    refine Zhz (cs := #[.int .i64 0, .int .i64 0, .int .i64 0, .int .i64 0, u8b 0#8, .int .i64 0]) rfl ?_; intro b10
    first|refine Zhy rfl rfl qR qZ (by first|rfl|exact oneM_u8 _|exact oneL_u8 _|assumption|(simp [oneC]; done)) qZ ?_|refine Zhx rfl rfl qR qZ (by first|rfl|exact oneM_u8 _|exact oneL_u8 _|assumption|(simp [oneC]; done)) qZ rfl ?_
    refine V1 ?_
    by_cases k0 : fl[i].kind < 0
    · have hno2 : ¬ HostS.mayBe pages (sz : Int) fl := fun h => by have := h.2; rw [hno (by simp [HostS.kindly]; omega)] at this; cases this
      refine Y2 ?_
      refine Zhp rfl qH ((by rfl)) ?_
      refine Zhg (Zbn (a := fl[i].kind) (b := 0) rfl rfl) ?_
      refine Zos 39 rfl (k0) ?_
      refine V11 ?_
      refine rx2 (Zhb rfl (Zg9 rfl (Zg7))) ?_
      exact ⟨_, .inr ⟨hno2, rfl, rfl⟩, qI⟩
    by_cases k4 : fl[i].kind > 4
    · have hno2 : ¬ HostS.mayBe pages (sz : Int) fl := fun h => by have := h.2; rw [hno (by simp [HostS.kindly]; omega)] at this; cases this
      refine Y2 ?_
      refine Zhp rfl qH ((by rfl)) ?_
      refine Zhg (Zbn (a := fl[i].kind) (b := 0) rfl rfl) ?_
      refine Zot 39 rfl (k0) ?_
      refine Y2 ?_
      first|refine Y0 ?_|(refine Zhh rfl ?_; (refine Zhp rfl qH ((by rfl)) ?_))
      first|refine Y0 ?_|(refine Zhh rfl ?_; (refine Zhg (Zbp (a := fl[i].kind) (b := 4) rfl rfl) ?_))
      refine Zos 43 rfl (k4) ?_
      refine V7 ?_
      refine rx2 (Zhb rfl (Zg9 rfl (Zg7))) ?_
      exact ⟨_, .inr ⟨hno2, rfl, rfl⟩, qI⟩
    have hkf : HostS.kindly fl[i] = true := by simp [HostS.kindly]; omega
    refine Y2 ?_
    refine Zhp rfl qH ((by rfl)) ?_
    refine Zhg (Zbn (a := fl[i].kind) (b := 0) rfl rfl) ?_
    refine Zot 39 rfl (k0) ?_
    refine Y2 ?_
    first|refine Y0 ?_|(refine Zhh rfl ?_; (refine Zhp rfl qH ((by rfl)) ?_))
    first|refine Y0 ?_|(refine Zhh rfl ?_; (refine Zhg (Zbp (a := fl[i].kind) (b := 4) rfl rfl) ?_))
    refine Zot 43 rfl (k4) ?_
    refine V3 ?_
    generalize HostS.comes (fl.take i) = cm at *
    refine Zgp (Imp.arr (N := omap bc faultsA [] cm :: cl b10 (fcells fl[i]).toArray 119 :: cl p (ncl pages sz bl bc) 141 :: omap bl rowsA [] (fun _ => []) :: L) qV) ?_
    refine Zom faults_nil fl[i].at_ ?_
    intro v
    refine Zgt (fun F w H => own_shape (E := 119) (size := 6) (n := (cm fl[i].at_).length) (xs := (cm fl[i].at_).flatMap fcells) (H.pick (.there .here))) ?_
    rintro ⟨ca, ck, rfl, hck, hckm⟩
    show xC Tryz.prog _ _ _ (own 119 6 (.slice ca (cm fl[i].at_).length ck) (cm fl[i].at_).length ((cm fl[i].at_).flatMap fcells) :: _) _
    refine Ct.o ?_
    refine Zij ([cl p (ncl pages sz bl bc) 141, cl b10 (fcells fl[i]).toArray 119, ohole bc faultsA [] cm fl[i].at_ (.slice ca (cm fl[i].at_).length ck)]) [5, 9, 11, 12, 13, 14, 15] (.q 0 (.q 1 (.q 2 (.q 4 (.q 6 (.q 7 (.q 8 (.q 10 (.r 3 (.r 5 (.r 9 (.r 11 (.r 12 (.r 13 (.e 14 true (.e 15 true (.e 16 false .nil))))))))))))))))) (by kernel_rfl) (by kernel_rfl) (Imp.arr qV) ?_
    refine W9 ?_
    refine Ziv rfl rfl qH ((by rfl)) ?_
    refine W1 ?_
    refine Ziv rfl rfl qH ((by rfl)) ?_
    refine Zon rfl rfl rfl qH ?_
    refine W1 ?_
    refine Ziq rfl ?_; refine Zh7 (cs := (fcells fl[i]).toArray) (by omega) (by omega) (by exact fill_one (by rfl) rfl) ?_; intro b14; refine Zg3 ⟨fun _ => Imp.arr qV, ?_⟩
    refine Ziq rfl ?_
    refine Zia rfl rfl qH (Rd.cl (xs := fcells fl[i]) qH (fcells_len _) qZ rfl) (by first|rfl|exact oneM_u8 _|exact oneL_u8 _|assumption|(simp [oneC]; done)) (by omega) qS ?_; intro a3 c3
    refine Zg3 ⟨fun _ => Imp.arr qV, ?_⟩
    refine Ziq rfl ?_; refine Zih rfl rfl rfl qR ?_; refine Zg3 ⟨(fun hh => Bool.noConfusion hh), ?_⟩
    refine Zik ?_
    refine V4 ?_
    refine Zgl (i + 1) qO ⟨by omega, by rw [hkn, hk, hkf]; rfl⟩ ?_ ⟨rfl, trivial⟩
    rw [← hnext]
    exact (Imp.arr (N := own 119 6 (.slice a3 ((cm fl[i].at_).length + 1) c3) ((cm fl[i].at_).length + 1) ((cm fl[i].at_).flatMap fcells ++ fcells fl[i]) :: oheld bc faultsA [] cm fl[i].at_ (.slice a3 ((cm fl[i].at_).length + 1) c3) :: cl p (ncl pages sz bl bc) 141 :: omap bl rowsA [] (fun _ => []) :: L) qV).trans hold_one
  · refine Ct.o ?_
    rw [List.take_of_length_le (by omega)] at hk ⊢
    refine V5 ?_
    refine rx2 (Zhb rfl (Zg9 rfl (Zg7))) ?_
    have hok : HostS.Ok (HostS.fresh pages (Int.toNat sz) fl) := ok_fresh pages sz fl hfit hfo hfl
    refine ⟨_, .inl ⟨⟨hfit, hk⟩, p, rfl, rfl⟩, ?_⟩
    refine (Imp.own_nil (E := 158) (size := 15)).trans ?_
    exact (Imp.arr (N := hostP p (HostS.fresh pages (Int.toNat sz) fl) (bl, bc, none, 0) ++ L) qV).trans (hostA_mk hok)
theorem new_ok (pages size : Int) {fv : Value} {fl : List HostS.Fault} (hfl : fl.length ≤ 2932031007401) (hfo : ∀ f ∈ fl, HostS.FOk f) (hf : Rd L 6 fv fl.length (fl.flatMap fcells)) (h : HostS.mayBe pages size fl) :
    Con Tryz.prog 19 [.int .i64 pages, .int .i64 size, fv] L (fun v M => ∃ p, v = .tuple #[hp p, nvv 0] ∧ M = hostA p (HostS.fresh pages size.toNat fl) :: L) :=
  (hnew_c pages size hfl hfo hf).mono fun v M hh => ⟨M, Imp.refl _, hh.elim (·.2) fun hn => absurd h hn.1⟩
end
end Go.Sl

namespace Go.Sl
open Go Go.Proofs
attribute [local irreducible] pt own old pur ex all den denOps denS xOps xC cX CX xthen xblk xcut xloop xng retX resX Calls PV Rd Con
theorem width32_x : Con Tryz.prog 190 [] [] (fun r M => r = nvv 4 ∧ M = []) := by
  refine fn_y Tryz.func190 Tryz.mixed ?_
  intro w0
  refine Y4 ?_
  refine Zhg (Zk6 rfl) ?_
  refine Zhg (Zkw rfl) ?_
  refine V5 ?_
  refine Zgo [(1, 2), (5, 12)] (by kernel_rfl) (fun i : Nat => i ≤ 4) (fun _ => []) (fun i => [(1, u32b ((~~~ (BitVec.ofInt 32 0)) >>> (8 * i))), (2, nvv i)]) (fun i => 4 - i) 0 (by omega) qI ⟨rfl, rfl, trivial⟩ ?_
  intro i u hi
  have hz : ∀ j : Fin (4 + 1), (~~~ (BitVec.ofInt 32 0)) >>> (8 * j.val) = 0#32 ↔ j.val = 4 := by decide
  have hs : ∀ j : Fin 4, (~~~ (BitVec.ofInt 32 0)) >>> (8 * j.val) >>> 7 >>> 1 = (~~~ (BitVec.ofInt 32 0)) >>> (8 * (j.val + 1)) := by decide
  by_cases hB : i = 4
  · subst hB
    refine Y2 ?_
    refine Zhg (Zkz (y := 0#32) rfl rfl) ?_
    refine Zot 6 rfl ((fun h => h ((hz ⟨4, by omega⟩).2 rfl))) ?_
    refine V6 ?_
    refine rx1 (Zg9 rfl (Zg7)) ?_
    exact ⟨_, ⟨rfl, rfl⟩, by exact Imp.arr (by repeat (first|exact Arr.nil|exact Arr.stop|refine Arr.cons (by repeat constructor) ?_|refine Arr.skip ?_))⟩
  · refine Y2 ?_
    refine Zhg (Zkz (y := 0#32) rfl rfl) ?_
    refine Zos 6 rfl ((fun h => hB ((hz ⟨i, by omega⟩).1 h))) ?_
    refine Y4 ?_
    refine Zhg (Zkv (m := 7) rfl rfl) ?_
    refine Y4 ?_
    refine Zhg (Zkv (m := 1) rfl rfl) ?_
    refine V7 ?_
    have e := hs ⟨i, by omega⟩
    dsimp only at e
    exact Zgl (i + 1) qO (by omega) qI ⟨by rw [← e]; rfl, rfl, trivial⟩
theorem put32_x {L : List Asrt} {v : Value} {b : List Byte} (x : BitVec 32) (h : Bs L v b) (hb : b.length ≤ 140737488355000) :
    Con Tryz.prog 157 [v, u32b x] L (fun r M => ∃ a c, r = .slice a (b ++ leB x 4).length c ∧ M = own 5 1 r (b ++ leB x 4).length ((b ++ leB x 4).map u8b) :: L) := by
  refine Con.get (fun w0 w F H => h.sh _ _ _ H) ?_
  rintro ⟨va, vc, rfl, hvc, hvcm⟩
  refine fn_y Tryz.func157 Tryz.mixed ?_
  intro w0
  refine Y4 ?_
  refine Zor (c := width32_x) (k := ?_)
  rintro _ _ ⟨rfl, rfl⟩
  refine Y10 ?_
  refine Zm3 (f := u8b) (a := 0#8) rfl rfl rfl qS qS qS ?_; intro b15
  refine Y5 ?_
  refine Zib rfl rfl (h.rd.imp Imp.tail) qR qZ qN (copy_pre b 4) ?_
  refine V1 ?_
  refine Zgp (Imp.own_mk (n := b.length) (cap := b.length + 4) (size := 1) (xs := b.map u8b) (by omega) (by omega) (by simp) (by simp)) ?_
  refine V4 ?_
  refine Zgo [(6, 7), (20, 31)] (by kernel_rfl) (fun s : Nat × Option Addr × Nat => s.1 ≤ 4) (fun s => own 5 1 (.slice s.2.1 (b ++ leB x s.1).length s.2.2) (b ++ leB x s.1).length ((b ++ leB x s.1).map u8b) :: L)
    (fun s => [(20, nvv s.1), (6, .slice s.2.1 (b ++ leB x s.1).length s.2.2)]) (fun s => 4 - s.1) (0, some ⟨b15, 0, none⟩, b.length + 4) (by show 0 ≤ _; omega) (by show Imp _ (own _ _ (.slice _ (b ++ []).length _) (b ++ []).length ((b ++ []).map u8b) :: L); rw [List.append_nil]; exact qI) ⟨rfl, by show _ = Value.slice _ (b ++ []).length _; rw [List.append_nil]; rfl, trivial⟩ ?_
  rintro ⟨i, a, c⟩ u hi
  dsimp only at hi ⊢
  have hll : (b ++ leB x i).length = b.length + i := by simp [leB_len]
  refine V3 ?_
  refine Zgg rfl (fun hB => ?_) (fun hB => ?_)
  · refine Y8 ?_
    first|refine Zhg (Zmc (a := 8) rfl rfl) ?_|refine Zhg (Zbi rfl rfl) ?_
    refine Zhg (Zkv rfl rfl) ?_
    refine Zhg (Zk8 rfl) ?_
    refine Zh7 (cs := #[.int .u8 _]) (by omega) (by omega) rfl ?_; intro b29
    refine Zia rfl rfl qH (Rd.cl (xs := [u8b ((x >>> (8 * i)).setWidth 8)]) qH rfl qZ rfl) qN (by omega) qS ?_; intro a3 c3
    refine V6 ?_
    have e : (b ++ leB x i) ++ [(x >>> (8 * i)).setWidth 8] = b ++ leB x (i + 1) := by rw [leB_succ, List.append_assoc]
    have e2 : (b ++ leB x i).map u8b ++ [u8b ((x >>> (8 * i)).setWidth 8)] = (b ++ leB x (i + 1)).map u8b := by rw [← e]; simp only [List.map_append, List.map_cons, List.map_nil]
    have e3 : (b ++ leB x i).length + 1 = (b ++ leB x (i + 1)).length := by rw [← e]; simp only [List.length_append, List.length_cons, List.length_nil]
    rw [e2, e3]
    exact Zgl (i + 1, a3, c3) qO qO qI ⟨rfl, rfl, trivial⟩
  · have hie : i = 4 := by omega
    subst hie
    refine V4 ?_
    refine rx1 (Zhc rfl (Zg7)) ?_
    exact ⟨_, ⟨a, c, rfl, rfl⟩, by exact Imp.arr (by repeat (first|exact Arr.nil|exact Arr.stop|refine Arr.cons (by repeat constructor) ?_|refine Arr.skip ?_))⟩
end Go.Sl
namespace Go.Sl
open Go Go.Proofs
attribute [local irreducible] pt own old pur ex all den denOps denS xOps xC cX CX xthen xblk xcut xloop xng retX resX Calls PV Rd Con
theorem width64_x : Con Tryz.prog 208 [] [] (fun r M => r = nvv 8 ∧ M = []) := by
  refine fn_y Tryz.func208 Tryz.mixed ?_
  intro w0
  refine Y4 ?_
  refine Zhg (Zlv rfl) ?_
  refine Zhg (Zll rfl) ?_
  refine V5 ?_
  refine Zgo [(1, 2), (5, 12)] (by kernel_rfl) (fun i : Nat => i ≤ 8) (fun _ => []) (fun i => [(1, u64b ((~~~ (BitVec.ofInt 64 0)) >>> (8 * i))), (2, nvv i)]) (fun i => 8 - i) 0 (by omega) qI ⟨rfl, rfl, trivial⟩ ?_
  intro i u hi
  have hz : ∀ j : Fin (8 + 1), (~~~ (BitVec.ofInt 64 0)) >>> (8 * j.val) = 0#64 ↔ j.val = 8 := by decide
  have hs : ∀ j : Fin 8, (~~~ (BitVec.ofInt 64 0)) >>> (8 * j.val) >>> 7 >>> 1 = (~~~ (BitVec.ofInt 64 0)) >>> (8 * (j.val + 1)) := by decide
  by_cases hB : i = 8
  · subst hB
    refine Y2 ?_
    refine Zhg (Zlo (y := 0#64) rfl rfl) ?_
    refine Zot 6 rfl ((fun h => h ((hz ⟨8, by omega⟩).2 rfl))) ?_
    refine V6 ?_
    refine rx1 (Zg9 rfl (Zg7)) ?_
    exact ⟨_, ⟨rfl, rfl⟩, by exact Imp.arr (by repeat (first|exact Arr.nil|exact Arr.stop|refine Arr.cons (by repeat constructor) ?_|refine Arr.skip ?_))⟩
  · refine Y2 ?_
    refine Zhg (Zlo (y := 0#64) rfl rfl) ?_
    refine Zos 6 rfl ((fun h => hB ((hz ⟨i, by omega⟩).1 h))) ?_
    refine Y4 ?_
    refine Zhg (Zlk (m := 7) rfl rfl) ?_
    refine Y4 ?_
    refine Zhg (Zlk (m := 1) rfl rfl) ?_
    refine V7 ?_
    have e := hs ⟨i, by omega⟩
    dsimp only at e
    exact Zgl (i + 1) qO (by omega) qI ⟨by rw [← e]; rfl, rfl, trivial⟩
theorem put64_x {L : List Asrt} {v : Value} {b : List Byte} (x : BitVec 64) (h : Bs L v b) (hb : b.length ≤ 140737488355000) :
    Con Tryz.prog 188 [v, u64b x] L (fun r M => ∃ a c, r = .slice a (b ++ leB x 8).length c ∧ M = own 5 1 r (b ++ leB x 8).length ((b ++ leB x 8).map u8b) :: L) := by
  refine Con.get (fun w0 w F H => h.sh _ _ _ H) ?_
  rintro ⟨va, vc, rfl, hvc, hvcm⟩
  refine fn_y Tryz.func188 Tryz.mixed ?_
  intro w0
  refine Y4 ?_
  refine Zor (c := width64_x) (k := ?_)
  rintro _ _ ⟨rfl, rfl⟩
  refine Y10 ?_
  refine Zm3 (f := u8b) (a := 0#8) rfl rfl rfl qS qS qS ?_; intro b15
  refine Y5 ?_
  refine Zib rfl rfl (h.rd.imp Imp.tail) qR qZ qN (copy_pre b 8) ?_
  refine V1 ?_
  refine Zgp (Imp.own_mk (n := b.length) (cap := b.length + 8) (size := 1) (xs := b.map u8b) (by omega) (by omega) (by simp) (by simp)) ?_
  refine V4 ?_
  refine Zgo [(6, 7), (20, 31)] (by kernel_rfl) (fun s : Nat × Option Addr × Nat => s.1 ≤ 8) (fun s => own 5 1 (.slice s.2.1 (b ++ leB x s.1).length s.2.2) (b ++ leB x s.1).length ((b ++ leB x s.1).map u8b) :: L)
    (fun s => [(20, nvv s.1), (6, .slice s.2.1 (b ++ leB x s.1).length s.2.2)]) (fun s => 8 - s.1) (0, some ⟨b15, 0, none⟩, b.length + 8) (by show 0 ≤ _; omega) (by show Imp _ (own _ _ (.slice _ (b ++ []).length _) (b ++ []).length ((b ++ []).map u8b) :: L); rw [List.append_nil]; exact qI) ⟨rfl, by show _ = Value.slice _ (b ++ []).length _; rw [List.append_nil]; rfl, trivial⟩ ?_
  rintro ⟨i, a, c⟩ u hi
  dsimp only at hi ⊢
  have hll : (b ++ leB x i).length = b.length + i := by simp [leB_len]
  refine V3 ?_
  refine Zgg rfl (fun hB => ?_) (fun hB => ?_)
  · refine Y8 ?_
    first|refine Zhg (Zmc (a := 8) rfl rfl) ?_|refine Zhg (Zbi rfl rfl) ?_
    refine Zhg (Zlk rfl rfl) ?_
    refine Zhg (Zlx rfl) ?_
    refine Zh7 (cs := #[.int .u8 _]) (by omega) (by omega) rfl ?_; intro b29
    refine Zia rfl rfl qH (Rd.cl (xs := [u8b ((x >>> (8 * i)).setWidth 8)]) qH rfl qZ rfl) qN (by omega) qS ?_; intro a3 c3
    refine V6 ?_
    have e : (b ++ leB x i) ++ [(x >>> (8 * i)).setWidth 8] = b ++ leB x (i + 1) := by rw [leB_succ, List.append_assoc]
    have e2 : (b ++ leB x i).map u8b ++ [u8b ((x >>> (8 * i)).setWidth 8)] = (b ++ leB x (i + 1)).map u8b := by rw [← e]; simp only [List.map_append, List.map_cons, List.map_nil]
    have e3 : (b ++ leB x i).length + 1 = (b ++ leB x (i + 1)).length := by rw [← e]; simp only [List.length_append, List.length_cons, List.length_nil]
    rw [e2, e3]
    exact Zgl (i + 1, a3, c3) qO qO qI ⟨rfl, rfl, trivial⟩
  · have hie : i = 8 := by omega
    subst hie
    refine V4 ?_
    refine rx1 (Zhc rfl (Zg7)) ?_
    exact ⟨_, ⟨a, c, rfl, rfl⟩, by exact Imp.arr (by repeat (first|exact Arr.nil|exact Arr.stop|refine Arr.cons (by repeat constructor) ?_|refine Arr.skip ?_))⟩
end Go.Sl
namespace Go.Sl
open Go Go.Proofs
attribute [local irreducible] pt own old pur ex all den denOps denS xOps xC cX CX xthen xblk xcut xloop xng retX resX Calls PV Rd Con
theorem fits32_x {L : List Asrt} {v : Value} {b : List Byte} (h : Bs L v b) (hb : b.length = 4) : Con Tryz.prog 159 [v] L (fun r M => r = nvv 0 ∧ L = M) := by
  refine Con.get (fun w0 w F H => h.sh _ _ _ H) ?_
  rintro ⟨va, vc, rfl, hvc, hvcm⟩
  refine fn_y Tryz.func159 Tryz.mixed ?_
  intro w0
  refine Y4 ?_
  refine Zor (c := width32_x) (k := ?_)
  rintro _ _ ⟨rfl, rfl⟩
  refine Y8 ?_
  refine Zot 8 rfl (by omega) ?_
  refine Y7 ?_
  refine Zot 12 rfl (by omega) ?_
  refine V5 ?_
  refine rx1 (Zg9 rfl (Zg7)) ?_
  exact ⟨_, ⟨rfl, rfl⟩, by exact Imp.arr (by repeat (first|exact Arr.nil|exact Arr.stop|refine Arr.cons (by repeat constructor) ?_|refine Arr.skip ?_))⟩
theorem low32_x {L : List Asrt} {v : Value} {b : List Byte} (h : Bs L v b) (hb : b.length ≤ 140737488355000) : Con Tryz.prog 160 [v] L (fun r M => r = u32b (lowB 32 b) ∧ L = M) := by
  refine Con.get (fun w0 w F H => h.sh _ _ _ H) ?_
  rintro ⟨va, vc, rfl, hvc, hvcm⟩
  refine fn_y Tryz.func160 Tryz.mixed ?_
  intro w0
  refine V11 ?_
  refine Zgo [(3, 5), (8, 20)] (by kernel_rfl) (fun i : Nat => i ≤ b.length) (fun _ => L) (fun i => [(3, u32b (lowB 32 (b.take i))), (8, nvv i)]) (fun i => b.length - i) 0 (by omega) qI ⟨by rw [List.take_zero]; rfl, rfl, trivial⟩ ?_
  intro i u hi
  refine V3 ?_
  refine Zgg rfl (fun hB => ?_) (fun hB => ?_)
  · refine Zgt (fun F w H => h.some (by omega) H) ?_
    rintro ⟨a1, a2, rfl⟩
    refine Y3 ?_
    refine Zff rfl (h.rd.at hB (getM hB)) ?_
    refine Y6 ?_
    refine Zhg (Zjw rfl) ?_
    refine Y1 ?_
    first|refine Zhg (Zmc (a := 8) rfl rfl) ?_|refine Zhg (Zbi rfl rfl) ?_
    refine Zhg (Zku rfl rfl) ?_
    refine V7 ?_
    have e : lowB 32 (b.take (i + 1)) = lowB 32 (b.take i) ||| (b[i].setWidth 32) <<< (8 * i) := by
      rw [List.take_succ_eq_append_getElem hB, lowB_snoc, List.length_take, Nat.min_eq_left hi]
    exact Zgl (i + 1) qO (by omega) qI ⟨by rw [e]; rfl, rfl, trivial⟩
  · have hie : i = b.length := by omega
    subst hie
    rw [List.take_length]
    refine V4 ?_
    refine rx1 (Zg9 rfl (Zg7)) ?_
    exact ⟨_, ⟨rfl, rfl⟩, by exact Imp.arr (by repeat (first|exact Arr.nil|exact Arr.stop|refine Arr.cons (by repeat constructor) ?_|refine Arr.skip ?_))⟩
theorem little32_x {L : List Asrt} {v : Value} {b : List Byte} (h : Bs L v b) (hb : b.length = 4) : Con Tryz.prog 125 [v] L (fun r M => r = .tuple #[u32b (lowB 32 b), nvv 0] ∧ L = M) := by
  refine Con.get (fun w0 w F H => h.sh _ _ _ H) ?_
  rintro ⟨va, vc, rfl, hvc, hvcm⟩
  refine fn_y Tryz.func125 Tryz.mixed ?_
  intro w0
  refine Y6 ?_
  refine Zor (c := fits32_x h hb) (k := ?_)
  rintro _ _ ⟨rfl, rfl⟩
  refine Y6 ?_
  refine Zhn 8 rfl (rfl) ?_
  refine Y4 ?_
  refine Zor (c := low32_x h (by omega)) (k := ?_)
  rintro _ _ ⟨rfl, rfl⟩
  refine V4 ?_
  refine rx2 (Zg9 rfl (Zg9 rfl (Zg7))) ?_
  exact ⟨_, ⟨rfl, rfl⟩, by exact Imp.arr (by repeat (first|exact Arr.nil|exact Arr.stop|refine Arr.cons (by repeat constructor) ?_|refine Arr.skip ?_))⟩
theorem bit_x (x : BitVec 64) : Con Tryz.prog 124 [u64b x] [] (fun r M => r = u64b (0#64 - (x &&& 1#64)) ∧ M = []) := by
  refine fn_y Tryz.func124 Tryz.mixed ?_
  intro w0
  refine Y5 ?_
  refine Zhg (Zlf (y := 1#64) rfl rfl) ?_
  refine Zhg (Zld (x := 0#64) rfl rfl) ?_
  refine V2 ?_
  refine rx1 (Zg9 rfl (Zg7)) ?_
  exact ⟨_, ⟨rfl, rfl⟩, by exact Imp.arr (by repeat (first|exact Arr.nil|exact Arr.stop|refine Arr.cons (by repeat constructor) ?_|refine Arr.skip ?_))⟩
def zeroB (x : BitVec 64) : BitVec 64 := 0#64 - ((((x ||| (0#64 - x)) >>> 63) ^^^ 1#64) &&& 1#64)
theorem zero_x (x : BitVec 64) : Con Tryz.prog 158 [u64b x] [] (fun r M => r = u64b (zeroB x) ∧ M = []) := by
  refine fn_y Tryz.func158 Tryz.mixed ?_
  intro w0
  refine Y6 ?_
  refine Zhg (Zld (x := 0#64) rfl rfl) ?_
  refine Y1 ?_
  refine Zhg (Zlk (m := 63) rfl rfl) ?_
  refine Zhg (Zlh (y := 1#64) rfl rfl) ?_
  refine Zor (c := bit_x _) (k := ?_)
  rintro _ _ ⟨rfl, rfl⟩
  refine V3 ?_
  refine rx1 (Zg9 rfl (Zg7)) ?_
  exact ⟨_, ⟨rfl, rfl⟩, by exact Imp.arr (by repeat (first|exact Arr.nil|exact Arr.stop|refine Arr.cons (by repeat constructor) ?_|refine Arr.skip ?_))⟩
def offB (a b : List Byte) : BitVec 64 := (List.zip a b).foldl (fun (d : BitVec 64) (x : Byte × Byte) => d ||| (x.1 ^^^ x.2).setWidth 64) 0#64
theorem offB_take {a b : List Byte} {i : Nat} (ha : i < a.length) (hb : i < b.length) : offB (a.take (i + 1)) (b.take (i + 1)) = offB (a.take i) (b.take i) ||| (a[i] ^^^ b[i]).setWidth 64 := by
  unfold offB
  rw [List.take_succ_eq_append_getElem ha, List.take_succ_eq_append_getElem hb, List.zip_append (by simp; omega), List.foldl_append]
  rfl
theorem zeroB_byte (x : Byte) : zeroB (x.setWidth 64) = if x = 0#8 then 18446744073709551615#64 else 0#64 := by
  have h : ∀ n : Fin 256, zeroB ((BitVec.ofFin n : Byte).setWidth 64) = if (BitVec.ofFin n : Byte) = 0#8 then 18446744073709551615#64 else 0#64 := by decide +kernel
  exact h x.toFin
theorem offB_byte : ∀ (a b : List Byte) (d : Byte), ∃ e : Byte, (List.zip a b).foldl (fun (d : BitVec 64) (x : Byte × Byte) => d ||| (x.1 ^^^ x.2).setWidth 64) (d.setWidth 64) = e.setWidth 64 ∧ (e = 0#8 ↔ d = 0#8 ∧ ∀ x ∈ List.zip a b, x.1 = x.2)
  | [], b, d => ⟨d, by simp, by simp⟩
  | x :: a, [], d => ⟨d, by simp, by simp⟩
  | x :: a, y :: b, d => by
    obtain ⟨e, h1, h2⟩ := offB_byte a b (d ||| (x ^^^ y))
    refine ⟨e, ?_, ?_⟩
    · rw [List.zip_cons_cons, List.foldl_cons, ← h1, BitVec.setWidth_or]
    · rw [h2]
      have e1 : (d ||| (x ^^^ y)) = 0#8 ↔ d = 0#8 ∧ x = y := by
        constructor
        · intro h
          have hd : d = 0#8 := by
            apply BitVec.eq_of_getLsbD_eq
            intro i hi
            have := congrArg (fun z => z.getLsbD i) h
            simp only [BitVec.getLsbD_or, BitVec.getLsbD_zero, Bool.or_eq_false_iff] at this
            rw [this.1]; simp
          rw [hd, BitVec.zero_or] at h
          refine ⟨hd, ?_⟩
          have := congrArg (fun z => z ^^^ y) h
          simp only [BitVec.xor_assoc, BitVec.xor_self, BitVec.xor_zero, BitVec.zero_xor] at this
          exact this
        · rintro ⟨rfl, rfl⟩; simp
      rw [e1, List.zip_cons_cons]
      simp only [List.mem_cons, forall_eq_or_imp]
      constructor
      · rintro ⟨⟨h1, h2⟩, h3⟩; exact ⟨h1, h2, h3⟩
      · rintro ⟨h1, h2, h3⟩; exact ⟨⟨h1, h2⟩, h3⟩
theorem zip_all_eq : ∀ (a b : List Byte), a.length = b.length → ((∀ x ∈ List.zip a b, x.1 = x.2) ↔ a = b)
  | [], [], _ => by simp
  | x :: a, y :: b, h => by
    have ih := zip_all_eq a b (by simpa using h)
    rw [List.zip_cons_cons]
    simp only [List.mem_cons, forall_eq_or_imp, ih, List.cons.injEq]
  | [], _ :: _, h => by simp at h
  | _ :: _, [], h => by simp at h
theorem same_val (a b : List Byte) (h : a.length = b.length) : zeroB (offB a b) = if a = b then 18446744073709551615#64 else 0#64 := by
  obtain ⟨e, h1, h2⟩ := offB_byte a b 0#8
  unfold offB
  rw [show (0#64 : BitVec 64) = (0#8 : Byte).setWidth 64 by decide, h1, zeroB_byte]
  have : e = 0#8 ↔ a = b := by rw [h2, zip_all_eq a b h]; simp
  by_cases hab : a = b
  · rw [if_pos hab, if_pos (this.2 hab)]
  · rw [if_neg hab, if_neg (fun h => hab (this.1 h))]; decide
theorem same_x {L : List Asrt} {va vb : Value} {a b : List Byte} (ha : Bs L va a) (hb : Bs L vb b) (hl : a.length = b.length) : Con Tryz.prog 206 [va, vb] L (fun r M => r = u64b (if a = b then 18446744073709551615#64 else 0#64) ∧ L = M) := by
  rw [← same_val a b hl]
  refine Con.get (fun w0 w F H => ha.sh _ _ _ H) ?_
  rintro ⟨aa, ac, rfl, hac, hacm⟩
  refine Con.get (fun w0 w F H => hb.sh _ _ _ H) ?_
  rintro ⟨ba, bc, rfl, hbc, hbcm⟩
  refine fn_y Tryz.func206 Tryz.mixed ?_
  intro w0
  refine Y9 ?_
  refine Zot 11 rfl ((fun h => h hl)) ?_
  refine V10 ?_
  refine Zgo [(5, 6), (14, 29)] (by kernel_rfl) (fun i : Nat => i ≤ a.length) (fun _ => L) (fun i => [(5, u64b (offB (a.take i) (b.take i))), (14, nvv i)]) (fun i => a.length - i) 0 (by omega) qI ⟨by rw [List.take_zero, List.take_zero]; rfl, rfl, trivial⟩ ?_
  intro i u hi
  refine V3 ?_
  refine Zgg rfl (fun hB => ?_) (fun hB => ?_)
  · refine Zgt (fun F w H => ha.some (by omega) H) ?_
    rintro ⟨a1, a2, rfl⟩
    refine Zgt (fun F w H => hb.some (by omega) H) ?_
    rintro ⟨a3, a4, rfl⟩
    have hB2 : i < b.length := by omega
    refine V4 ?_
    refine Zij (_) [8] (.q 0 (.q 1 (.q 2 (.q 3 (.q 5 (.q 6 (.q 7 (.r 4 (.r 8 (.q 9 (.q 10 (.q 11 (.q 12 .nil))))))))))))) (by kernel_rfl) (by kernel_rfl) (Imp.refl _) ?_
    refine W7 ?_
    refine Zfh rfl rfl (ha.rd.at hB (getM hB)) ?_
    refine Zfh rfl rfl (hb.rd.at hB2 (getM hB2)) ?_
    refine W1 ?_
    refine Zim rfl (Zjx rfl) ?_
    refine W3 ?_
    refine V4 ?_
    exact Zgl (i + 1) qO (by omega) qI ⟨by rw [offB_take hB hB2]; rfl, rfl, trivial⟩
  · have hie : i = a.length := by omega
    rw [List.take_of_length_le (by omega), List.take_of_length_le (by omega)]
    refine Y2 ?_
    refine Zor (c := zero_x _) (k := ?_)
    rintro _ _ ⟨rfl, rfl⟩
    refine V3 ?_
    refine rx1 (Zg9 rfl (Zg7)) ?_
    exact ⟨_, ⟨rfl, rfl⟩, by exact Imp.arr (by repeat (first|exact Arr.nil|exact Arr.stop|refine Arr.cons (by repeat constructor) ?_|refine Arr.skip ?_))⟩
theorem rotl_x (x : Wd) (n : Nat) (hn : n = 7 ∨ n = 8 ∨ n = 12 ∨ n = 16) : Con Tryz.prog 267 [u32b x, nvv n] [] (fun r M => r = u32b (rotW x n) ∧ M = []) := by
  refine fn_y Tryz.func267 Tryz.mixed ?_
  intro w0
  refine Y5 ?_
  refine Zhg (Zlv rfl) ?_
  refine Zhg (Zlf (y := 31#64) rfl rfl) ?_
  refine Y5 ?_
  refine Zhg (Zku rfl rfl) ?_
  refine Y2 ?_
  refine Zhg (Zld (x := 32#64) rfl rfl) ?_
  refine Zhg (Zkv rfl rfl) ?_
  refine V3 ?_
  refine rx1 (Zg9 rfl (Zg7)) ?_
  rcases hn with rfl|rfl|rfl|rfl <;> exact ⟨_, ⟨rfl, rfl⟩, qI⟩
end Go.Sl
namespace Go.Sl
open Go Go.Proofs
attribute [local irreducible] pt own old pur ex all den denOps denS xOps xC cX CX xthen xblk xcut xloop xng retX resX Calls PV Rd Con
theorem quarter_x (a b c d : Wd) : Con Tryz.prog 260 [u32b a, u32b b, u32b c, u32b d] [] (fun r M => r = .tuple #[u32b (quarterW a b c d).1, u32b (quarterW a b c d).2.1, u32b (quarterW a b c d).2.2.1, u32b (quarterW a b c d).2.2.2] ∧ M = []) := by
  refine fn_y Tryz.func260 Tryz.mixed ?_
  intro w0
  refine Y20 ?_
  refine Zor (c := rotl_x _ 16 (by omega)) (k := ?_)
  rintro _ _ ⟨rfl, rfl⟩
  refine Y17 ?_
  refine Zor (c := rotl_x _ 12 (by omega)) (k := ?_)
  rintro _ _ ⟨rfl, rfl⟩
  refine Y17 ?_
  refine Zor (c := rotl_x _ 8 (by omega)) (k := ?_)
  rintro _ _ ⟨rfl, rfl⟩
  refine Y17 ?_
  refine Zor (c := rotl_x _ 7 (by omega)) (k := ?_)
  rintro _ _ ⟨rfl, rfl⟩
  refine V13 ?_
  refine rx4 (Zg9 rfl (Zg9 rfl (Zg9 rfl (Zg9 rfl (Zg7))))) ?_
  exact ⟨_, ⟨rfl, rfl⟩, by exact Imp.arr (by repeat (first|exact Arr.nil|exact Arr.stop|refine Arr.cons (by repeat constructor) ?_|refine Arr.skip ?_))⟩
theorem word_x {L : List Asrt} {v : Value} {b : List Byte} (h : Bs L v b) (hb : b.length = 4) : Con Tryz.prog 259 [v] L (fun r M => r = u32b (lowB 32 b) ∧ L = M) := by
  refine Con.get (fun w0 w F H => h.sh _ _ _ H) ?_
  rintro ⟨va, vc, rfl, hvc, hvcm⟩
  refine fn_y Tryz.func259 Tryz.mixed ?_
  intro w0
  refine Y5 ?_
  refine Zor (c := little32_x h hb) (k := ?_)
  rintro _ _ ⟨rfl, rfl⟩
  refine V11 ?_
  refine rx1 (Zg9 rfl (Zg7)) ?_
  exact ⟨_, ⟨rfl, rfl⟩, by exact Imp.arr (by repeat (first|exact Arr.nil|exact Arr.stop|refine Arr.cons (by repeat constructor) ?_|refine Arr.skip ?_))⟩
def st0 : List Wd := [1634760805#32, 857760878#32, 2036477234#32, 1797285236#32]
def stK (key : List Byte) (n : Nat) : List Wd := st0 ++ ((List.range n).map (fun i => lowB 32 ((key.drop (4 * i)).take 4)) ++ List.replicate (12 - n) 0#32)
def stN (key : List Byte) (ctr : Wd) (nonce : List Byte) (n : Nat) : List Wd := st0 ++ ((List.range 8).map (fun i => lowB 32 ((key.drop (4 * i)).take 4)) ++ (ctr :: ((List.range n).map (fun i => lowB 32 ((nonce.drop (4 * i)).take 4)) ++ List.replicate (3 - n) 0#32)))
theorem stK_len (key : List Byte) (n : Nat) (h : n ≤ 8) : (stK key n).length = 16 := by simp [stK, st0]; omega
theorem stN_len (key : List Byte) (ctr : Wd) (nonce : List Byte) (n : Nat) (h : n ≤ 3) : (stN key ctr nonce n).length = 16 := by simp [stN, st0]; omega
theorem stK_set (key : List Byte) (n : Nat) (h : n < 8) : (stK key n).set (4 + n) (lowB 32 ((key.drop (4 * n)).take 4)) = stK key (n + 1) := by
  unfold stK
  rw [List.set_append_right _ _ (by simp [st0]), List.set_append_right _ _ (by simp [st0])]
  simp only [st0, List.length_cons, List.length_nil, List.length_map, List.length_range]
  rw [show 4 + n - (0 + 1 + 1 + 1 + 1) - n = 0 by omega, show 12 - n = (12 - (n + 1)) + 1 by omega, List.replicate_succ, List.set_cons_zero, List.range_succ, List.map_append, List.append_assoc]
  rfl
theorem stK_ctr (key : List Byte) (ctr : Wd) (nonce : List Byte) : (stK key 8).set 12 ctr = stN key ctr nonce 0 := rfl
theorem stN_set (key : List Byte) (ctr : Wd) (nonce : List Byte) (n : Nat) (h : n < 3) : (stN key ctr nonce n).set (13 + n) (lowB 32 ((nonce.drop (4 * n)).take 4)) = stN key ctr nonce (n + 1) := by
  match n, h with
  | 0, _ => rfl
  | 1, _ => rfl
  | 2, _ => rfl
theorem stN_end (key : List Byte) (ctr : Wd) (nonce : List Byte) : stN key ctr nonce 3 = stateW key ctr nonce := rfl
attribute [local irreducible] lowB stK stN
theorem state_x (key : List Byte) (ctr : Wd) (nonce : List Byte) (hk : key.length = 32) (hn : nonce.length = 12) : Con Tryz.prog 242 [.agg (key.map u8b).toArray, u32b ctr, .agg (nonce.map u8b).toArray] [] (fun r M => r = .agg ((stateW key ctr nonce).map u32b).toArray ∧ M = []) := by
  have hk0 : stK key 0 = [1634760805#32, 857760878#32, 2036477234#32, 1797285236#32, 0#32, 0#32, 0#32, 0#32, 0#32, 0#32, 0#32, 0#32, 0#32, 0#32, 0#32, 0#32] := by unfold stK; rfl
  refine fn_y Tryz.func242 Tryz.mixed ?_
  intro w0
  refine Y1 ?_
  refine Zh5 rfl ?_; intro b3
  refine Zh5 rfl ?_; intro b5
  refine Zhz (cs := ((List.replicate 16 0#32).map u32b).toArray) rfl ?_; intro b6
  refine Y2 ?_
  refine Zhg (Zdn (cs := #[u32b 1634760805#32, u32b 857760878#32, u32b 2036477234#32, u32b 1797285236#32, u32b 0#32, u32b 0#32, u32b 0#32, u32b 0#32, u32b 0#32, u32b 0#32, u32b 0#32, u32b 0#32, u32b 0#32, u32b 0#32, u32b 0#32, u32b 0#32]) (by kernel_rfl)) ?_
  refine Zhz (cs := ((List.replicate 16 0#32).map u32b).toArray) rfl ?_; intro b7
  first|refine Zhy rfl rfl qR qZ qN qZ ?_|refine Zhx rfl rfl qR qZ qN qZ rfl ?_
  refine V4 ?_
  refine Zgo [(8, 8), (11, 24)] (by kernel_rfl) (fun i : Nat => i ≤ 8) (fun i => [cl b7 ((stK key i).map u32b).toArray 314, cl b6 ((List.replicate 16 0#32).map u32b).toArray 314, cl b5 (nonce.map u8b).toArray 156, cl b3 (key.map u8b).toArray 42])
    (fun i => [(11, nvv i)]) (fun i => 8 - i) 0 (by omega) (by rw [hk0]; exact qI) ⟨rfl, trivial⟩ ?_
  intro i u hi
  have hkl := stK_len key i hi
  refine V3 ?_
  refine Zgg rfl (fun hB => ?_) (fun hB => ?_)
  · refine Y6 ?_
    first|refine Zhg (Zma (a := 4) rfl rfl) ?_|refine Zhg (Zbg rfl rfl) ?_
    refine Y1 ?_
    first|refine Zhg (Zmc (a := 4) rfl rfl) ?_|refine Zhg (Zbi rfl rfl) ?_
    refine Y1 ?_
    first|refine Zhg (Zmc (a := 4) rfl rfl) ?_|refine Zhg (Zbi rfl rfl) ?_
    refine Y1 ?_
    first|refine Zhg (Zm9 (l := 4 * i) (h := 4 * i + 4) rfl qB qB) ?_|refine Zhg (Zmx (l := 4 * i) (h := 4 * i + 4) rfl qB qB) ?_
    refine Zor (c := word_x (L := [cl b3 (key.map u8b).toArray 42]) (b := (key.drop (4 * i)).take (4 * i + 4 - 4 * i)) (bs_piece (o := 4 * i) (n := 4 * i + 4 - 4 * i) (c := 32 - 4 * i) qH (by omega) (by omega) (by omega)) (by simp; omega)) (k := ?_)
    rintro _ _ ⟨rfl, rfl⟩
    refine Y1 ?_
    first|refine Zhg (Zl5 (n := 4 + i) rfl (int_eq (by push_cast; omega))) ?_|refine Zhg (Zl3 (n := 4 + i) rfl (int_eq (by push_cast; omega))) ?_
    refine Zht rfl rfl qR qZ (setL (f := u32b) (l := stK key i)) ?_
    refine V1 ?_
    rw [show 4 * i + 4 - 4 * i = 4 by omega, stK_set key i hB]
    refine V4 ?_
    exact Zgl (i + 1) qO (by omega) qI ⟨rfl, trivial⟩
  · have hie : i = 8 := by omega
    subst hie
    refine Y2 ?_
    first|refine Zhg (Zl5 (n := 12) rfl rfl) ?_|refine Zhg (Zl3 (n := 12) rfl rfl) ?_
    refine Zht rfl rfl qR qZ (setL (f := u32b) (l := stK key 8)) ?_
    refine V1 ?_
    rw [stK_ctr key ctr nonce]
    refine V3 ?_
    refine Zgo [(9, 9), (27, 40)] (by kernel_rfl) (fun i : Nat => i ≤ 3) (fun i => [cl b7 ((stN key ctr nonce i).map u32b).toArray 314, cl b6 ((List.replicate 16 0#32).map u32b).toArray 314, cl b5 (nonce.map u8b).toArray 156, cl b3 (key.map u8b).toArray 42])
      (fun i => [(27, nvv i)]) (fun i => 3 - i) 0 (by omega) qI ⟨rfl, trivial⟩ ?_
    intro i u2 hi
    have hkl := stN_len key ctr nonce i hi
    refine V3 ?_
    refine Zgg rfl (fun hB => ?_) (fun hB => ?_)
    · refine Y6 ?_
      first|refine Zhg (Zma (a := 13) rfl rfl) ?_|refine Zhg (Zbg rfl rfl) ?_
      refine Y1 ?_
      first|refine Zhg (Zmc (a := 4) rfl rfl) ?_|refine Zhg (Zbi rfl rfl) ?_
      refine Y1 ?_
      first|refine Zhg (Zmc (a := 4) rfl rfl) ?_|refine Zhg (Zbi rfl rfl) ?_
      refine Y1 ?_
      first|refine Zhg (Zm9 (l := 4 * i) (h := 4 * i + 4) rfl qB qB) ?_|refine Zhg (Zmx (l := 4 * i) (h := 4 * i + 4) rfl qB qB) ?_
      refine Zor (c := word_x (L := [cl b5 (nonce.map u8b).toArray 156]) (b := (nonce.drop (4 * i)).take (4 * i + 4 - 4 * i)) (bs_piece (o := 4 * i) (n := 4 * i + 4 - 4 * i) (c := 12 - 4 * i) qH (by omega) (by omega) (by omega)) (by simp; omega)) (k := ?_)
      rintro _ _ ⟨rfl, rfl⟩
      refine Y1 ?_
      first|refine Zhg (Zl5 (n := 13 + i) rfl (int_eq (by push_cast; omega))) ?_|refine Zhg (Zl3 (n := 13 + i) rfl (int_eq (by push_cast; omega))) ?_
      refine Zht rfl rfl qR qZ (setL (f := u32b) (l := stN key ctr nonce i)) ?_
      refine V1 ?_
      rw [show 4 * i + 4 - 4 * i = 4 by omega, stN_set key ctr nonce i hB]
      refine V4 ?_
      exact Zgl (i + 1) qO (by omega) qI ⟨rfl, trivial⟩
    · have hie : i = 3 := by omega
      subst hie
      rw [stN_end]
      have hsl := stateW_len key ctr nonce
      refine Y2 ?_
      first|refine Zhy rfl rfl qR qZ qN qZ ?_|refine Zhx rfl rfl qR qZ qN qZ rfl ?_
      refine V1 ?_
      refine rx1 (Zhe rfl qH qZ (Zg7)) ?_
      exact ⟨_, ⟨rfl, rfl⟩, by exact Imp.arr (by repeat (first|exact Arr.nil|exact Arr.stop|refine Arr.cons (by repeat constructor) ?_|refine Arr.skip ?_))⟩
end Go.Sl
namespace Go.Sl
open Go Go.Proofs
attribute [local irreducible] pt own old pur ex all den denOps denS xOps xC cX CX xthen xblk xcut xloop xng retX resX Calls PV Rd Con
theorem low64_x {L : List Asrt} {v : Value} {b : List Byte} (h : Bs L v b) (hb : b.length ≤ 140737488355000) : Con Tryz.prog 203 [v] L (fun r M => r = u64b (lowB 64 b) ∧ L = M) := by
  refine Con.get (fun w0 w F H => h.sh _ _ _ H) ?_
  rintro ⟨va, vc, rfl, hvc, hvcm⟩
  refine fn_y Tryz.func203 Tryz.mixed ?_
  intro w0
  refine V11 ?_
  refine Zgo [(3, 5), (8, 20)] (by kernel_rfl) (fun i : Nat => i ≤ b.length) (fun _ => L) (fun i => [(3, u64b (lowB 64 (b.take i))), (8, nvv i)]) (fun i => b.length - i) 0 (by omega) qI ⟨by rw [List.take_zero]; rfl, rfl, trivial⟩ ?_
  intro i u hi
  refine V3 ?_
  refine Zgg rfl (fun hB => ?_) (fun hB => ?_)
  · refine Zgt (fun F w H => h.some (by omega) H) ?_
    rintro ⟨a1, a2, rfl⟩
    refine Y3 ?_
    refine Zff rfl (h.rd.at hB (getM hB)) ?_
    refine Y6 ?_
    refine Zhg (Zjx rfl) ?_
    refine Y1 ?_
    first|refine Zhg (Zmc (a := 8) rfl rfl) ?_|refine Zhg (Zbi rfl rfl) ?_
    refine Zhg (Zlj rfl rfl) ?_
    refine V7 ?_
    have e : lowB 64 (b.take (i + 1)) = lowB 64 (b.take i) ||| (b[i].setWidth 64) <<< (8 * i) := by
      rw [List.take_succ_eq_append_getElem hB, lowB_snoc, List.length_take, Nat.min_eq_left hi]
    exact Zgl (i + 1) qO (by omega) qI ⟨by rw [e]; rfl, rfl, trivial⟩
  · have hie : i = b.length := by omega
    subst hie
    rw [List.take_length]
    refine V4 ?_
    refine rx1 (Zg9 rfl (Zg7)) ?_
    exact ⟨_, ⟨rfl, rfl⟩, by exact Imp.arr (by repeat (first|exact Arr.nil|exact Arr.stop|refine Arr.cons (by repeat constructor) ?_|refine Arr.skip ?_))⟩
abbrev rdc (g o len c : Nat) : Array Value := #[.slice (some ⟨g, o, none⟩) len c, nvv 0]
theorem newReader_x {L : List Asrt} {v : Value} {b : List Byte} (h : Bs L v b) (hb : b.length ≤ 140737488351232) :
    Con Tryz.prog 183 [v] L (fun r M => ∃ p g, r = .pointer (some ⟨p, 0, none⟩) ∧ M = cl p (rdc g 0 b.length b.length) 265 :: cl g (b.map u8b).toArray 5 :: L) := by
  refine Con.get (fun w0 w F H => h.sh _ _ _ H) ?_
  rintro ⟨va, vc, rfl, hvc, hvcm⟩
  refine fn_y Tryz.func183 Tryz.mixed ?_
  intro w0
  refine Y6 ?_
  refine Zm3 (f := u8b) (a := 0#8) rfl rfl rfl qS qS qS ?_; intro b6
  refine Y5 ?_
  refine Zib rfl rfl (h.rd.imp Imp.tail) qR qZ qN ((by have := copy_pre b 0; simpa using this)) ?_
  refine Y3 ?_
  refine Zhg (Zdm (cs := #[.slice _ _ _, .int .i64 0]) rfl) ?_
  refine Zh5 rfl ?_; intro b12
  refine V2 ?_
  refine rx1 (Zhb rfl (Zg7)) ?_
  exact ⟨_, ⟨b12, b6, rfl, rfl⟩, qI⟩
theorem take_x {p g o len c n : Nat} (hn : n ≤ len) (hc : n < c) (h0 : 0 < n) (hcm : c ≤ 9223372036854775807) (hlc : len ≤ c) :
    Con Tryz.prog 204 [.pointer (some ⟨p, 0, none⟩), nvv n] [cl p (rdc g o len c) 265] (fun r M => r = .slice (some ⟨g, o, none⟩) n n ∧ M = [cl p (rdc g (o + n) (len - n) (c - n)) 265]) := by
  refine fn_y Tryz.func204 Tryz.mixed ?_
  intro w0
  refine Y12 ?_
  refine Zot 13 rfl (by decide) ?_
  refine Y6 ?_
  refine Zot 17 rfl (by omega) ?_
  refine Y11 ?_
  refine Zot 28 rfl (by omega) ?_
  refine Y9 ?_
  refine Zot 36 rfl (by decide) ?_
  refine Y9 ?_
  refine Zhg (Zns (h := n) rfl rfl rfl (by omega) h0) ?_
  refine Y9 ?_
  first|refine Zhg (Zna (l := n) (h := len) rfl qB qB) ?_|refine Zhg (Zmz (l := n) (h := len) rfl qB qB) ?_
  refine V8 ?_
  refine rx1 (Zhc rfl (Zg7)) ?_
  exact ⟨_, ⟨rfl, rfl⟩, qI⟩
theorem u64_x {p g o len c : Nat} (l : List Byte) (hl : o + 8 ≤ l.length) (hn : 8 ≤ len) (hc : 8 < c) (hcm : c ≤ 9223372036854775807) (hlc : len ≤ c) :
    Con Tryz.prog 184 [.pointer (some ⟨p, 0, none⟩)] [cl p (rdc g o len c) 265, cl g (l.map u8b).toArray 5] (fun r M => r = u64b (lowB 64 ((l.drop o).take 8)) ∧ M = [cl p (rdc g (o + 8) (len - 8) (c - 8)) 265, cl g (l.map u8b).toArray 5]) := by
  have hll : ((l.drop o).take 8).length = 8 := by simp; omega
  refine fn_y Tryz.func184 Tryz.mixed ?_
  intro w0
  refine Y5 ?_
  refine Zor (c := take_x (n := 8) hn hc (by omega) hcm hlc) (k := ?_)
  rintro _ _ ⟨rfl, rfl⟩
  refine Y1 ?_
  refine Zor (c := low64_x (L := [cl g (l.map u8b).toArray 5]) (b := (l.drop o).take 8) (bs_piece (o := o) (n := 8) (c := 8) .here hl (by omega) (by omega)) (by omega)) (k := ?_)
  rintro _ _ ⟨rfl, rfl⟩
  refine V3 ?_
  refine rx1 (Zg9 rfl (Zg7)) ?_
  exact ⟨_, ⟨rfl, rfl⟩, qI⟩
theorem u32_x {p g o len c : Nat} (l : List Byte) (hl : o + 4 ≤ l.length) (hn : 4 ≤ len) (hc : 4 < c) (hcm : c ≤ 9223372036854775807) (hlc : len ≤ c) :
    Con Tryz.prog 185 [.pointer (some ⟨p, 0, none⟩)] [cl p (rdc g o len c) 265, cl g (l.map u8b).toArray 5] (fun r M => r = u32b (lowB 32 ((l.drop o).take 4)) ∧ M = [cl p (rdc g (o + 4) (len - 4) (c - 4)) 265, cl g (l.map u8b).toArray 5]) := by
  have hll : ((l.drop o).take 4).length = 4 := by simp; omega
  refine fn_y Tryz.func185 Tryz.mixed ?_
  intro w0
  refine Y5 ?_
  refine Zor (c := take_x (n := 4) hn hc (by omega) hcm hlc) (k := ?_)
  rintro _ _ ⟨rfl, rfl⟩
  refine Y1 ?_
  refine Zor (c := low32_x (L := [cl g (l.map u8b).toArray 5]) (b := (l.drop o).take 4) (bs_piece (o := o) (n := 4) (c := 4) .here hl (by omega) (by omega)) (by omega)) (k := ?_)
  rintro _ _ ⟨rfl, rfl⟩
  refine V3 ?_
  refine rx1 (Zg9 rfl (Zg7)) ?_
  exact ⟨_, ⟨rfl, rfl⟩, qI⟩
theorem rerr_x {p g o len c : Nat} : Con Tryz.prog 186 [.pointer (some ⟨p, 0, none⟩)] [cl p (rdc g o len c) 265] (fun r M => r = nvv 0 ∧ M = [cl p (rdc g o len c) 265]) := by
  refine fn_y Tryz.func186 Tryz.mixed ?_
  intro w0
  refine Y6 ?_
  refine Zhn 4 rfl (rfl) ?_
  refine V9 ?_
  refine rx1 (Zg9 rfl (Zg7)) ?_
  exact ⟨_, ⟨rfl, rfl⟩, qI⟩
end Go.Sl
namespace Go.Sl
open Go Go.Proofs
attribute [local irreducible] pt own old pur ex all den denOps denS xOps xC cX CX xthen xblk xcut xloop xng retX resX Calls PV Rd Con
attribute [local irreducible] qAt twiceN quarterW
theorem getW {l : List Wd} (j : Nat) (h : j < l.length) : ((l.map u32b).toArray)[j]? = some (u32b (l.getD j 0#32)) := by
  rw [getL h, List.getD_eq_getElem?_getD, List.getElem?_eq_getElem h]; rfl
theorem qAt_is (s : List Wd) (a b c d : Nat) : qAt s (a, b, c, d) = (((s.set a (quarterW (s.getD a 0#32) (s.getD b 0#32) (s.getD c 0#32) (s.getD d 0#32)).1).set b (quarterW (s.getD a 0#32) (s.getD b 0#32) (s.getD c 0#32) (s.getD d 0#32)).2.1).set c (quarterW (s.getD a 0#32) (s.getD b 0#32) (s.getD c 0#32) (s.getD d 0#32)).2.2.1).set d (quarterW (s.getD a 0#32) (s.getD b 0#32) (s.getD c 0#32) (s.getD d 0#32)).2.2.2 := by
  unfold qAt; rfl
theorem twice_x (s : List Wd) (hs : s.length = 16) : Con Tryz.prog 243 [.agg (s.map u32b).toArray] [] (fun r M => r = .agg ((twiceW s).map u32b).toArray ∧ M = []) := by
  have ht0 : twiceN s 0 = s := by unfold twiceN; rfl
  have hl : ∀ n, (twiceN s n).length = 16 := fun n => by rw [twiceN_len, hs]
  refine fn_y Tryz.func243 Tryz.mixed ?_
  intro w0
  refine Y1 ?_
  refine Zh5 rfl ?_; intro b1
  refine Zhz (cs := ((List.replicate 16 0#32).map u32b).toArray) rfl ?_; intro b2
  refine V4 ?_
  refine Zgo [(3, 58)] (by kernel_rfl) (fun t : Nat => t ≤ 2) (fun t => [cl b1 ((twiceN s (4 * t)).map u32b).toArray 314, cl b2 ((List.replicate 16 0#32).map u32b).toArray 314]) (fun t => [(8, nvv t)]) (fun t => 2 - t) 0 (by omega) (by rw [ht0]; exact qI) ⟨rfl, trivial⟩ ?_
  intro t u ht
  have hlt := hl (4 * t)
  refine V3 ?_
  refine Zgg rfl (fun hA => ?_) (fun hA => ?_)
  · refine V7 ?_
    refine Zgo [(4, 7), (11, 57)] (by kernel_rfl) (fun i : Nat => i ≤ 4) (fun i => [cl b1 ((twiceN s (4 * t + i)).map u32b).toArray 314, cl b2 ((List.replicate 16 0#32).map u32b).toArray 314]) (fun i => [(11, nvv i)]) (fun i => 4 - i) 0 (by omega) qI ⟨rfl, trivial⟩ ?_
    intro i u2 hi
    have hli := hl (4 * t + i)
    refine V3 ?_
    refine Zgg rfl (fun hB => ?_) (fun hB => ?_)
    · have h1 : (i + t) % 4 < 4 := Nat.mod_lt _ (by omega)
      have h2 : (i + 2 * t) % 4 < 4 := Nat.mod_lt _ (by omega)
      have h3 : (i + 3 * t) % 4 < 4 := Nat.mod_lt _ (by omega)
      have hsucc := twiceN_succ s (4 * t + i) (by omega)
      rw [show (4 * t + i) / 4 = t by omega, show (4 * t + i) % 4 = i by omega, quadOf, qAt_is] at hsucc
      generalize twiceN s (4 * t + i) = S at hli hsucc
      refine Y9 ?_
      first|refine Zhg (Zma (a := 4) rfl rfl) ?_|refine Zhg (Zbg rfl rfl) ?_
      refine Y2 ?_
      first|refine Zhg (Zmc (a := 2) rfl rfl) ?_|refine Zhg (Zbi rfl rfl) ?_
      refine Y2 ?_
      first|refine Zhg (Zma (a := 8) rfl rfl) ?_|refine Zhg (Zbg rfl rfl) ?_
      refine Y2 ?_
      first|refine Zhg (Zmc (a := 3) rfl rfl) ?_|refine Zhg (Zbi rfl rfl) ?_
      refine Y2 ?_
      first|refine Zhg (Zma (a := 12) rfl rfl) ?_|refine Zhg (Zbg rfl rfl) ?_
      refine V4 ?_
      refine Zij (_) [9, 12, 15] (.q 0 (.q 1 (.q 2 (.q 3 (.q 4 (.q 5 (.q 7 (.q 8 (.q 10 (.q 11 (.q 13 (.q 14 (.r 6 (.r 9 (.r 12 (.r 15 (.e 16 false (.q 17 (.q 18 (.q 19 (.q 20 (.q 21 (.q 22 (.e 23 false (.q 24 (.e 25 false (.q 26 (.e 27 false (.q 28 (.e 29 false .nil)))))))))))))))))))))))))))))) (by kernel_rfl) (by kernel_rfl) (Imp.refl _) ?_
      refine W5 ?_
      first|refine Zim rfl (Zl5 (n := i) rfl (int_eq (by push_cast; omega))) ?_|refine Zim rfl (Zl3 (n := i) rfl (int_eq (by push_cast; omega))) ?_
      refine W1 ?_
      first|refine Zim rfl (Zl5 (n := 4 + (i + t) % 4) rfl (int_eq (by push_cast; omega))) ?_|refine Zim rfl (Zl3 (n := 4 + (i + t) % 4) rfl (int_eq (by push_cast; omega))) ?_
      refine W1 ?_
      first|refine Zim rfl (Zl5 (n := 8 + (i + 2 * t) % 4) rfl (int_eq (by push_cast; omega))) ?_|refine Zim rfl (Zl3 (n := 8 + (i + 2 * t) % 4) rfl (int_eq (by push_cast; omega))) ?_
      refine W1 ?_
      first|refine Zim rfl (Zl5 (n := 12 + (i + 3 * t) % 4) rfl (int_eq (by push_cast; omega))) ?_|refine Zim rfl (Zl3 (n := 12 + (i + 3 * t) % 4) rfl (int_eq (by push_cast; omega))) ?_
      refine Ziv rfl rfl qH (getW i (by omega)) ?_
      refine Ziv rfl rfl qH (getW _ (by omega)) ?_
      refine Ziv rfl rfl qH (getW _ (by omega)) ?_
      refine Ziv rfl rfl qH (getW _ (by omega)) ?_
      refine Ziq rfl ?_
      refine Zor (c := quarter_x _ _ _ _) (k := ?_)
      rintro _ _ ⟨rfl, rfl⟩
      refine Y1 ?_
      refine Zg3 ⟨(fun hh => Bool.noConfusion hh), ?_⟩
      refine W5 ?_
      first|refine Zim rfl (Zl5 (n := i) rfl (int_eq (by push_cast; omega))) ?_|refine Zim rfl (Zl3 (n := i) rfl (int_eq (by push_cast; omega))) ?_
      refine Ziq rfl ?_
      refine Zht rfl rfl qR qZ (setL (f := u32b)) ?_
      refine Zg3 ⟨(fun hh => Bool.noConfusion hh), ?_⟩
      first|refine Zim rfl (Zl5 (n := 4 + (i + t) % 4) rfl (int_eq (by push_cast; omega))) ?_|refine Zim rfl (Zl3 (n := 4 + (i + t) % 4) rfl (int_eq (by push_cast; omega))) ?_
      refine Ziq rfl ?_
      refine Zht rfl rfl qR qZ (setL (f := u32b)) ?_
      refine Zg3 ⟨(fun hh => Bool.noConfusion hh), ?_⟩
      first|refine Zim rfl (Zl5 (n := 8 + (i + 2 * t) % 4) rfl (int_eq (by push_cast; omega))) ?_|refine Zim rfl (Zl3 (n := 8 + (i + 2 * t) % 4) rfl (int_eq (by push_cast; omega))) ?_
      refine Ziq rfl ?_
      refine Zht rfl rfl qR qZ (setL (f := u32b)) ?_
      refine Zg3 ⟨(fun hh => Bool.noConfusion hh), ?_⟩
      first|refine Zim rfl (Zl5 (n := 12 + (i + 3 * t) % 4) rfl (int_eq (by push_cast; omega))) ?_|refine Zim rfl (Zl3 (n := 12 + (i + 3 * t) % 4) rfl (int_eq (by push_cast; omega))) ?_
      refine Ziq rfl ?_
      refine Zht rfl rfl qR qZ (setL (f := u32b)) ?_
      refine Zg3 ⟨(fun hh => Bool.noConfusion hh), ?_⟩
      refine Zik ?_
      refine Ct.o ?_
      rw [← hsucc]
      refine V4 ?_
      exact Zgl (i + 1) qO (by omega) qI ⟨rfl, trivial⟩
    · have hie : i = 4 := by omega
      subst hie
      refine V4 ?_
      exact Zgl (t + 1) qO (by omega) qI ⟨rfl, trivial⟩
  · have hie : t = 2 := by omega
    subst hie
    refine Y2 ?_
    first|refine Zhy rfl rfl qR qZ qN qZ ?_|refine Zhx rfl rfl qR qZ qN qZ rfl ?_
    refine V1 ?_
    refine rx1 (Zhe rfl qH qZ (Zg7)) ?_
    exact ⟨_, ⟨by unfold twiceW; rfl, rfl⟩, qI⟩
def outK (s f : List Wd) (i : Nat) : List Byte := outW64 s f i ++ List.replicate (64 - 4 * i) 0#8
theorem outK_len (s f : List Wd) (i : Nat) (h : i ≤ 16) : (outK s f i).length = 64 := by simp [outK, outW64_len]; omega
theorem outK_wr (s f : List Wd) (i : Nat) (h : i < 16) (w : Wd) (hw : w = sumW s f i) : wr (((outK s f i).map u8b).toArray) (4 * i) ((([] ++ leB w 4).map u8b).take (min ([] ++ leB w 4).length (64 - 4 * i) * 1)) = ((outK s f (i + 1)).map u8b).toArray := by
  have hl := leB_len w 4
  have ho := outW64_len s f i
  rw [List.nil_append, hl, Nat.min_eq_left (by omega), Nat.mul_one, List.take_of_length_le (by simp [hl])]
  apply Array.ext'
  rw [wr_toList _ _ _ (by simp [hl, outK_len s f i (by omega)]; omega)]
  simp only [outK]
  rw [outW64_succ, ← hw, show 64 - 4 * i = 4 + (64 - 4 * (i + 1)) by omega, ← List.replicate_append_replicate]
  simp only [List.map_append, List.length_map, hl]
  rw [List.take_append_of_le_length (by simp [ho]), List.take_of_length_le (by simp [ho]), List.drop_append, List.drop_of_length_le (by simp [ho])]
  simp [ho, show 4 * i + 4 - 4 * i = 4 by omega]
attribute [local irreducible] outK outW64 stateW twiceW iterW
theorem block_x (key : List Byte) (ctr : Wd) (nonce : List Byte) (hk : key.length = 32) (hn : nonce.length = 12) : Con Tryz.prog 225 [.agg (key.map u8b).toArray, u32b ctr, .agg (nonce.map u8b).toArray] [] (fun r M => r = .agg ((blockB key ctr nonce).map u8b).toArray ∧ M = []) := by
  have hsl := stateW_len key ctr nonce
  have hsc := state_x key ctr nonce hk hn
  obtain ⟨S, hS⟩ : ∃ S, S = stateW key ctr nonce := ⟨_, rfl⟩
  rw [← hS] at hsl hsc
  have hi0 : iterW 0 S = S := by unfold iterW; rfl
  have his : ∀ n, iterW (n + 1) S = twiceW (iterW n S) := fun n => by conv => lhs; unfold iterW
  have hbl : blockB key ctr nonce = outK (iterW 10 S) S 16 := by unfold blockB outK; rw [← hS]; simp
  have hil : ∀ n, (iterW n S).length = 16 := fun n => by rw [iterW_len, hsl]
  have ho0 : outK (iterW 10 S) S 0 = List.replicate 64 0#8 := by unfold outK outW64; simp
  have hol := outK_len (iterW 10 S) S
  refine fn_y Tryz.func225 Tryz.mixed ?_
  intro w0
  refine Y1 ?_
  refine Zh5 rfl ?_; intro b3
  refine Zh5 rfl ?_; intro b5
  refine Zhz (cs := ((List.replicate 64 0#8).map u8b).toArray) rfl ?_; intro b6
  refine Y5 ?_
  refine Zor (c := hsc) (k := ?_)
  rintro _ _ ⟨rfl, rfl⟩
  refine Y1 ?_
  refine Zhz (cs := ((List.replicate 16 0#32).map u32b).toArray) rfl ?_; intro b7
  first|refine Zhy rfl rfl qR qZ qN qZ ?_|refine Zhx rfl rfl qR qZ qN qZ rfl ?_
  refine Y3 ?_
  refine Zhz (cs := ((List.replicate 16 0#32).map u32b).toArray) rfl ?_; intro b8
  first|refine Zhy rfl rfl qR qZ qN qZ ?_|refine Zhx rfl rfl qR qZ qN qZ rfl ?_
  refine V4 ?_
  refine Zgo [(17, 21)] (by kernel_rfl) (fun i : Nat => i ≤ 10) (fun i => [cl b8 ((iterW i S).map u32b).toArray 314, cl b7 (S.map u32b).toArray 314, cl b6 ((List.replicate 64 0#8).map u8b).toArray 285])
    (fun i => [(17, nvv i)]) (fun i => 10 - i) 0 (by omega) (by rw [hi0]; exact qI) ⟨rfl, trivial⟩ ?_
  intro i u hi
  have hli := hil i
  refine V3 ?_
  refine Zgg rfl (fun hB => ?_) (fun hB => ?_)
  · have htl := twiceW_len (iterW i S)
    refine Y2 ?_
    refine Zor (c := twice_x (iterW i S) hli) (k := ?_)
    rintro _ _ ⟨rfl, rfl⟩
    refine Y1 ?_
    first|refine Zhy rfl rfl qR qZ qN qZ ?_|refine Zhx rfl rfl qR qZ qN qZ rfl ?_
    refine V1 ?_
    rw [← his]
    refine V4 ?_
    exact Zgl (i + 1) qO (by omega) qI ⟨rfl, trivial⟩
  · have hie : i = 10 := by omega
    subst hie
    refine Y1 ?_
    refine Zhz (cs := ((List.replicate 64 0#8).map u8b).toArray) rfl ?_; intro b9
    refine V5 ?_
    refine Zgo [(10, 11), (23, 37)] (by kernel_rfl) (fun i : Nat => i ≤ 16) (fun i => [cl b9 ((outK (iterW 10 S) S i).map u8b).toArray 285, cl b7 (S.map u32b).toArray 314, cl b6 ((List.replicate 64 0#8).map u8b).toArray 285])
      (fun i => [(23, nvv i)]) (fun i => 16 - i) 0 (by omega) (by rw [ho0]; exact qI) ⟨rfl, trivial⟩ ?_
    intro i u2 hi
    have hli := hol i hi
    refine V3 ?_
    refine Zgg rfl (fun hB => ?_) (fun hB => ?_)
    · refine Y2 ?_
      refine Zhg (Znb rfl rfl (getW i (by omega))) ?_
      refine V3 ?_
      refine Zij (_) [] (.q 0 (.q 1 (.q 2 (.q 3 (.q 4 (.q 5 (.r 6 (.q 7 (.e 8 false (.e 9 false .nil)))))))))) (by kernel_rfl) (by kernel_rfl) (Imp.refl _) ?_
      refine W1 ?_
      first|refine Zim rfl (Zmc (a := 4) rfl rfl) ?_|refine Zim rfl (Zbi rfl rfl) ?_
      first|refine Zim rfl (Zm9 (l := 4 * i) (h := 64) rfl qB qB) ?_|refine Zim rfl (Zmx (l := 4 * i) (h := 64) rfl qB qB) ?_
      refine W2 ?_
      first|refine Zim rfl (Zl5 (n := i) rfl (int_eq (by push_cast; omega))) ?_|refine Zim rfl (Zl3 (n := i) rfl (int_eq (by push_cast; omega))) ?_
      refine Ziv rfl rfl qH (getW i (by omega)) ?_
      refine W1 ?_
      refine Ziq rfl ?_
      refine Zor (c := put32_x (L := []) _ Bs.nil (by simp)) (k := ?_)
      rintro _ _ ⟨a3, c3, rfl, rfl⟩
      refine Y1 ?_
      refine Zg3 ⟨(fun hh => Bool.noConfusion hh), ?_⟩
      refine Ziq rfl ?_
      refine Zib rfl rfl (Rd.own qH) qR qZ qN (outK_wr (iterW 10 S) S i hB _ rfl) ?_
      refine Zg3 ⟨(fun hh => Bool.noConfusion hh), ?_⟩
      refine Zik ?_
      refine V4 ?_
      exact Zgl (i + 1) qO (by omega) qI ⟨rfl, trivial⟩
    · have hie : i = 16 := by omega
      subst hie
      rw [← hbl]
      have hbll := blockB_len key ctr nonce
      refine Y2 ?_
      first|refine Zhy rfl rfl qR qZ qN qZ ?_|refine Zhx rfl rfl qR qZ qN qZ rfl ?_
      refine V1 ?_
      refine rx1 (Zhe rfl qH qZ (Zg7)) ?_
      exact ⟨_, ⟨rfl, rfl⟩, by exact Imp.arr (by repeat (first|exact Arr.nil|exact Arr.stop|refine Arr.cons (by repeat constructor) ?_|refine Arr.skip ?_))⟩
end Go.Sl
namespace Go.Sl
open Go Go.Proofs
attribute [local irreducible] pt own old pur ex all den denOps denS xOps xC cX CX xthen xblk xcut xloop xng retX resX Calls PV Rd Con
attribute [local irreducible] blockB ksB
def scl (key nonce : List Byte) (p : BitVec 64) : Array Value := (key.map u8b ++ (nonce.map u8b ++ [u64b p])).toArray
section
variable {key nonce : List Byte} {p q : BitVec 64} (hk : key.length = 32) (hn : nonce.length = 12)
theorem scl_size (hk : key.length = 32) (hn : nonce.length = 12) : (scl key nonce p).size = 45 := by simp [scl, hk, hn]
theorem scl_key (hk : key.length = 32) : (scl key nonce p).extract 0 32 = (key.map u8b).toArray := by
  apply Array.ext'; simp [scl, List.extract_eq_take_drop, hk]
theorem scl_nonce (hk : key.length = 32) (hn : nonce.length = 12) : (scl key nonce p).extract 32 44 = (nonce.map u8b).toArray := by
  apply Array.ext'; simp [scl, List.extract_eq_take_drop, hk, hn]
theorem scl_p (hk : key.length = 32) (hn : nonce.length = 12) : (scl key nonce p)[44]? = some (u64b p) := by simp [scl, List.getElem?_append, List.getElem?_cons, hk, hn]
theorem scl_set (hk : key.length = 32) (hn : nonce.length = 12) : (scl key nonce p).setIfInBounds 44 (u64b q) = scl key nonce q := by
  apply Array.ext'; simp [scl, List.set_append, hk, hn]
end
def z44 : List Value := List.replicate 44 (Value.int .u8 0)
theorem new_fill {pl : Nat → Option (Nat × Nat)} (key nonce : List Byte) (p : BitVec 64) (hk : key.length = 32) (hn : nonce.length = 12) (h0 : pl 0 = some (0, 32)) (h1 : pl 1 = some (32, 12)) (h2 : pl 2 = some (44, 1)) :
    Instr.fill pl ((z44 ++ [Value.int .u64 0]).toArray) [(0, .agg (key.map u8b).toArray), (1, .agg (nonce.map u8b).toArray), (2, u64b p)] = some (scl key nonce p) := by
  refine fill_part (z' := (key.map u8b ++ (List.replicate 12 (Value.int .u8 0) ++ [Value.int .u64 0])).toArray) h0 (by simp [Value.cells, hk]) (by simp [z44]) ?_ (fill_part (z' := (key.map u8b ++ (nonce.map u8b ++ [Value.int .u64 0])).toArray) h1 (by simp [Value.cells, hn]) (by simp [hk]) ?_ (fill_part (z' := scl key nonce p) h2 (by simp [Value.cells]) (by simp [hk, hn]) ?_ fill_end))
  · apply Array.ext'
    rw [wr_toList _ _ _ (by simp [Value.cells, hk, z44])]
    simp [Value.cells, hk, z44]
  · apply Array.ext'
    rw [wr_toList _ _ _ (by simp [Value.cells, hk, hn])]
    simp [Value.cells, hk, hn, List.drop_append]
  · apply Array.ext'
    rw [wr_toList _ _ _ (by simp [Value.cells, hk, hn])]
    simp only [Value.cells, scl, List.take_append, List.drop_append, List.length_map, hk, hn]
    rw [List.take_of_length_le (l := key.map u8b) (by simp [hk]), List.drop_of_length_le (l := key.map u8b) (by simp [hk]), List.drop_of_length_le (l := nonce.map u8b) (by simp [hn]), List.take_of_length_le (l := nonce.map u8b) (by simp [hn])]
    simp
theorem snew_x (key nonce : List Byte) (ctr : Wd) (hk : key.length = 32) (hn : nonce.length = 12) : Con Tryz.prog 229 [.agg (key.map u8b).toArray, .agg (nonce.map u8b).toArray, u32b ctr] [] (fun r M => ∃ s, r = .pointer (some ⟨s, 0, none⟩) ∧ M = [cl s (scl key nonce (64#64 * ctr.setWidth 64)) 327]) := by
  refine fn_y Tryz.func229 Tryz.mixed ?_
  intro w0
  refine Y1 ?_
  refine Zh5 rfl ?_; intro b3
  refine Zh5 rfl ?_; intro b4
  refine Y6 ?_
  refine Zhg (Zlb rfl) ?_
  refine Zhg (Zle (x := 64#64) rfl rfl) ?_
  refine Zhg (Zdm (cs := scl key nonce (64#64 * ctr.setWidth 64)) (new_fill key nonce _ hk hn rfl rfl rfl)) ?_
  refine Zh5 rfl ?_; intro b13
  refine V2 ?_
  refine rx1 (Zhb rfl (Zg7)) ?_
  exact ⟨_, ⟨b13, rfl, rfl⟩, qI⟩
def xK (key nonce : List Byte) (p : Nat) (b : List Byte) (n : Nat) : List Byte := (List.range b.length).map fun j => if j < n then b.getD j 0#8 ^^^ ksB key nonce (p + j) else 0#8
theorem xK_len (key nonce : List Byte) (p : Nat) (b : List Byte) (n : Nat) : (xK key nonce p b n).length = b.length := by simp [xK]
theorem xK_zero (key nonce : List Byte) (p : Nat) (b : List Byte) : xK key nonce p b 0 = List.replicate b.length 0#8 := by
  apply List.ext_getElem (by simp [xK]); intro j h1 h2; simp [xK]
theorem xK_end (key nonce : List Byte) (p : Nat) (b : List Byte) : xK key nonce p b b.length = xorB key nonce p b := by
  apply List.ext_getElem (by simp [xK, xorB]); intro j h1 h2
  have : j < b.length := by simpa [xK] using h1
  simp [xK, xorB, this]
theorem xK_set (key nonce : List Byte) (p : Nat) (b : List Byte) (n : Nat) (h : n < b.length) (x y : Byte) (hx : x = b[n]) (hy : y = ksB key nonce (p + n)) : (xK key nonce p b n).set n (x ^^^ y) = xK key nonce p b (n + 1) := by
  subst hx; subst hy
  apply List.ext_getElem (by simp [xK])
  intro j h1 h2
  simp only [xK, List.getElem_set, List.getElem_map, List.getElem_range]
  by_cases e : n = j
  · subst e; rw [if_pos rfl, if_pos (by omega), List.getD_eq_getElem?_getD, List.getElem?_eq_getElem h]; rfl
  · rw [if_neg e]
    by_cases h3 : j < n
    · rw [if_pos h3, if_pos (by omega)]
    · rw [if_neg h3, if_neg (by omega)]
theorem ctr_eq (q : Nat) (hq : q < 18446744073709551616) : (BitVec.ofNat 64 q / 64#64).setWidth 32 = BitVec.ofNat 32 (q / 64) := by
  apply BitVec.eq_of_toNat_eq
  rw [BitVec.toNat_setWidth, BitVec.toNat_udiv, BitVec.toNat_ofNat, BitVec.toNat_ofNat, BitVec.toNat_ofNat, Nat.mod_eq_of_lt (show q < 2 ^ 64 by omega)]
theorem rem_eq (q : Nat) (hq : q < 18446744073709551616) : (BitVec.ofNat 64 q % 64#64).toNat = q % 64 := by
  rw [BitVec.toNat_umod, BitVec.toNat_ofNat, BitVec.toNat_ofNat, Nat.mod_eq_of_lt (show q < 2 ^ 64 by omega)]
theorem plus_eq (q n : Nat) : BitVec.ofNat 64 q + BitVec.ofInt 64 ((n : Nat) : Int) = BitVec.ofNat 64 (q + n) := by
  rw [show BitVec.ofInt 64 ((n : Nat) : Int) = BitVec.ofNat 64 n from BitVec.ofInt_natCast .., ← BitVec.ofNat_add]
theorem ks_in (key nonce : List Byte) (q i : Nat) (h : q % 64 + i < 64) : ksB key nonce (q + i) = (blockB key (BitVec.ofNat 32 (q / 64)) nonce).getD (q % 64 + i) 0#8 := by
  unfold ksB
  rw [show (q + i) / 64 = q / 64 by omega, show (q + i) % 64 = q % 64 + i by omega]
attribute [local irreducible] scl xK xorB
theorem sxor_x {L : List Asrt} {s : Nat} (key nonce : List Byte) (hk : key.length = 32) (hn : nonce.length = 12) (p : Nat) (hp : p + 1099511627776 ≤ 18446744073709551616) {v : Value} {b : List Byte} (h : Bs L v b) (hb : b.length + p ≤ 274877906944) :
    Con Tryz.prog 230 [.pointer (some ⟨s, 0, none⟩), v] (cl s (scl key nonce (BitVec.ofNat 64 p)) 327 :: L)
      (fun r M => ∃ g, r = .tuple #[.slice (some ⟨g, 0, none⟩) b.length b.length, nvv 0] ∧ M = cl g ((xorB key nonce p b).map u8b).toArray 5 :: cl s (scl key nonce (BitVec.ofNat 64 (p + b.length))) 327 :: L) := by
  refine Con.get (fun w0 w F H => (h.imp Imp.tail).sh _ _ _ H) ?_
  rintro ⟨va, vc, rfl, hvc, hvcm⟩
  have hsz := fun q => scl_size (p := q) hk hn
  refine fn_y Tryz.func230 Tryz.mixed ?_
  intro w0
  refine V9 ?_
  have hle : ¬ ((274877906944#64 - BitVec.ofNat 64 p).toNat < (BitVec.ofInt 64 ((b.length : Nat) : Int)).toNat) := by
    rw [BitVec.toNat_sub, BitVec.toNat_ofNat, BitVec.toNat_ofNat, BitVec.toNat_ofInt]
    omega
  refine Y3 ?_
  refine Zhg (Zlv rfl) ?_
  refine Y3 ?_
  refine Zhp rfl qH (scl_p hk hn) ?_
  refine Zhg (Zld (x := 274877906944#64) rfl rfl) ?_
  refine Zhg (Zlr rfl rfl) ?_
  refine Zot 22 rfl (hle) ?_
  refine Y5 ?_
  refine Zm3 (f := u8b) (a := 0#8) rfl rfl rfl qS qS qS ?_; intro b25
  refine V5 ?_
  refine Zgo [(7, 11), (26, 90)] (by kernel_rfl) (fun d : Nat => d ≤ b.length) (fun d => cl b25 ((xK key nonce p b d).map u8b).toArray 5 :: cl s (scl key nonce (BitVec.ofNat 64 (p + d))) 327 :: L) (fun d => [(7, nvv d)]) (fun d => b.length - d) 0 (by omega) (by rw [xK_zero]; exact qI) ⟨rfl, trivial⟩ ?_
  intro d u hd
  have hxl := xK_len key nonce p b
  refine V6 ?_
  refine Zgg rfl (fun hA => ?_) (fun hA => ?_)
  · refine Zgt (fun F w H => (h.imp (Imp.arr qV)).some (by omega) H) ?_
    rintro ⟨a1, a2, rfl⟩
    have hbl := fun c => blockB_len key c nonce
    have hs1 := hsz (BitVec.ofNat 64 (p + d))
    have hb1 := hbl ((BitVec.ofNat 64 (p + d) / 64#64).setWidth 32)
    refine Ct.o ?_
    refine Zij (_) [7, 8, 9, 13, 14, 15] (.q 0 (.q 1 (.q 2 (.q 4 (.q 5 (.q 6 (.q 10 (.q 11 (.q 12 (.r 3 (.r 7 (.r 8 (.r 9 (.r 13 (.e 14 true (.a 15 (.e 16 false .nil))))))))))))))))) (by kernel_rfl) (by kernel_rfl) (Imp.refl _) ?_
    refine W9 ?_
    refine Zix (n := 32) rfl rfl qH qZ (scl_key hk) ?_
    refine Ziv rfl rfl qH (scl_p hk hn) ?_
    refine Ziz rfl (Zlt (y := 64#64) rfl rfl) ?_
    refine Ziz rfl (Zlz rfl) ?_
    refine Zfj rfl rfl (RdAg.cl (n := 12) (o := 32) qH (by omega) (scl_nonce hk hn)) ?_
    refine Ziq rfl ?_
    refine Zor (c := block_x key _ nonce hk hn) (k := ?_)
    rintro _ _ ⟨rfl, rfl⟩
    refine Y1 ?_
    refine Zg3 ⟨fun _ => Imp.arr qV, ?_⟩
    refine Zir rfl (cs := ((List.replicate 64 0#8).map u8b).toArray) rfl ?_; intro b8
    refine Ziq rfl ?_
    first|refine Zhy rfl rfl qR qZ qN qZ ?_|refine Zhx rfl rfl qR qZ qN qZ rfl ?_
    refine Zg3 ⟨(fun hh => Bool.noConfusion hh), ?_⟩
    refine Zik ?_
    refine Ct.o ?_
    rw [ctr_eq (p + d) (by omega)]
    generalize hBL : blockB key (BitVec.ofNat 32 ((p + d) / 64)) nonce = BL
    have hBll : BL.length = 64 := by rw [← hBL]; exact hbl _
    have hoff : (p + d) % 64 < 64 := Nat.mod_lt _ (by omega)
    refine Y4 ?_
    refine Zhp rfl qH (scl_p hk hn) ?_
    refine Zhg (PV.eq (v' := .int .u64 (((p + d) % 64 : Nat) : Int)) (Zlu (y := 64#64) rfl rfl) (by rw [rem_eq (p + d) (by omega)])) ?_
    first|refine Zhg (Zm9 (l := (p + d) % 64) (h := 64) rfl qB qB) ?_|refine Zhg (Zmx (l := (p + d) % 64) (h := 64) rfl qB qB) ?_
    refine V2 ?_
    obtain ⟨n, hn0⟩ : ∃ n, n = min (64 - (p + d) % 64) (b.length - d) := ⟨_, rfl⟩
    refine Y7 ?_
    refine Zhg (PV.eq (v' := nvv n) (Zcw rfl rfl) (int_eq (by rw [hn0]; omega))) ?_
    refine V2 ?_
    have hn1 : 0 < n := by omega
    have hn2 : n ≤ b.length - d := by omega
    have hn3 : (p + d) % 64 + n ≤ 64 := by omega
    clear hn0
    refine V4 ?_
    refine Zgo [(11, 11), (59, 78)] (by kernel_rfl) (fun i : Nat => i ≤ n) (fun i => cl b8 (BL.map u8b).toArray 285 :: cl b25 ((xK key nonce p b (d + i)).map u8b).toArray 5 :: cl s (scl key nonce (BitVec.ofNat 64 (p + d))) 327 :: L) (fun i => [(59, nvv i)]) (fun i => n - i) 0 (by omega) qI ⟨rfl, trivial⟩ ?_
    intro i u2 hi
    refine V3 ?_
    refine Zgg rfl (fun hB => ?_) (fun hB => ?_)
    · have hdi : d + i < b.length := by omega
      have hx2 := hxl (d + i)
      have hk2 : BL.getD ((p + d) % 64 + i) 0#8 = ksB key nonce (p + (d + i)) := by rw [← Nat.add_assoc, ks_in key nonce (p + d) i (by omega), hBL]
      have hg : ((BL.map u8b).toArray)[(p + d) % 64 + i]? = some (u8b (BL.getD ((p + d) % 64 + i) 0#8)) := by
        rw [getL (by omega), List.getD_eq_getElem?_getD, List.getElem?_eq_getElem (by omega)]; rfl
      refine V4 ?_
      refine Zij (_) [13] (.q 0 (.q 1 (.q 2 (.q 3 (.q 4 (.q 5 (.q 6 (.q 7 (.q 8 (.q 10 (.q 11 (.q 12 (.r 9 (.r 13 (.q 14 (.q 15 (.e 16 false .nil))))))))))))))))) (by kernel_rfl) (by kernel_rfl) (Imp.refl _) ?_
      refine W8 ?_
      first|refine Zim rfl (Zl4 (n := d + i) rfl (int_eq (by push_cast; omega))) ?_|refine Zim rfl (Zl1 (n := d + i) rfl (int_eq (by push_cast; omega))) ?_
      refine W2 ?_
      first|refine Zim rfl (Zl4 (n := i) rfl (int_eq (by push_cast; omega))) ?_|refine Zim rfl (Zl1 (n := i) rfl (int_eq (by push_cast; omega))) ?_
      refine Zfh rfl rfl (((h.imp (Imp.arr qV)).rd.at hdi (getM hdi))) ?_
      refine Ziv rfl rfl qH (hg) ?_
      refine W1 ?_
      first|refine Zim rfl (Zl4 (n := d + i) rfl (int_eq (by push_cast; omega))) ?_|refine Zim rfl (Zl1 (n := d + i) rfl (int_eq (by push_cast; omega))) ?_
      refine Ziq rfl ?_
      refine Zht rfl rfl qR qZ (setL (f := u8b)) ?_
      refine Zg3 ⟨(fun hh => Bool.noConfusion hh), ?_⟩
      refine Zik ?_
      refine Ct.o ?_
      rw [xK_set key nonce p b (d + i) hdi _ _ rfl hk2, Nat.add_assoc]
      refine V4 ?_
      exact Zgl (i + 1) qO (by omega) qI ⟨rfl, trivial⟩
    · have hie : i = n := by omega
      subst hie
      refine Y10 ?_
      refine Zhp rfl qH (scl_p hk hn) ?_
      refine Y1 ?_
      refine Zhg (Zlv rfl) ?_
      refine Y3 ?_
      refine Zht rfl rfl qR qZ (scl_set hk hn) ?_
      refine V1 ?_
      rw [plus_eq, Nat.add_assoc]
      exact Zgl (d + i) qO (by omega) qI ⟨rfl, trivial⟩
  · have hie : d = b.length := by omega
    subst hie
    rw [xK_end]
    refine V5 ?_
    refine rx2 (Zhc rfl (Zg9 rfl (Zg7))) ?_
    exact ⟨_, ⟨b25, rfl, rfl⟩, qI⟩
theorem xor_x {L : List Asrt} (key nonce : List Byte) (hk : key.length = 32) (hn : nonce.length = 12) {v : Value} {b : List Byte} (h : Bs L v b) (hb : b.length ≤ 274877906880) :
    Con Tryz.prog 207 [.agg (key.map u8b).toArray, .agg (nonce.map u8b).toArray, u32b 1#32, v] L
      (fun r M => ∃ g, r = .tuple #[.slice (some ⟨g, 0, none⟩) b.length b.length, nvv 0] ∧ M = cl g ((xorB key nonce 64 b).map u8b).toArray 5 :: L) := by
  refine Con.get (fun w0 w F H => h.sh _ _ _ H) ?_
  rintro ⟨va, vc, rfl, hvc, hvcm⟩
  have hnew := snew_x key nonce 1#32 hk hn
  rw [show 64#64 * (1#32 : Wd).setWidth 64 = BitVec.ofNat 64 64 by decide] at hnew
  refine fn_y Tryz.func207 Tryz.mixed ?_
  intro w0
  refine Y1 ?_
  refine Zh5 rfl ?_; intro b4
  refine Zh5 rfl ?_; intro b5
  refine Y7 ?_
  refine Zor (c := hnew) (k := ?_)
  rintro _ _ ⟨s, rfl, rfl⟩
  refine Y2 ?_
  refine Zor (c := sxor_x (L := L) (s := s) key nonce hk hn 64 (by omega) h (by omega)) (k := ?_)
  rintro _ _ ⟨g, rfl, rfl⟩
  refine V6 ?_
  refine rx2 (Zhc rfl (Zg9 rfl (Zg7))) ?_
  exact ⟨_, ⟨g, rfl, rfl⟩, qI⟩
end Go.Sl
namespace Go.Sl
open Go Go.Proofs
attribute [local irreducible] pt own old pur ex all den denOps denS xOps xC cX CX xthen xblk xcut xloop xng retX resX Calls PV Rd Con
theorem ext_typeOf (e : Int) : extv Tryz.prog 209 [.iface 22 (.int .i64 e)] (.iface 296 (.agg #[.pointer (some ⟨0, 22, none⟩)])) :=
  extv_of Tryz.func209 (by kernel_rfl) (by kernel_rfl) (by kernel_rfl) (e := Extern.ReflectliteType.typeOf) (by kernel_rfl) (by intro w; kernel_rfl)
theorem ext_comparable : extv Tryz.prog 307 [.agg #[.pointer (some ⟨0, 22, none⟩)]] (.bool true) :=
  extv_of Tryz.func307 (by kernel_rfl) (by kernel_rfl) (by kernel_rfl) (e := Extern.ReflectliteType.method fun t => do Extern.Rtype.noPackHeld "Comparable" t; pure (.bool (← typeInfo t).comparable)) (by kernel_rfl) (by intro w; kernel_rfl)
theorem met_comparable : Met Tryz.prog 296 (.agg #[.pointer (some ⟨0, 22, none⟩)]) "Comparable" 307 (.agg #[.pointer (some ⟨0, 22, none⟩)]) := by intro w; kernel_rfl
theorem is2_x (e : Int) : Con Tryz.prog 210 [.iface 22 (.int .i64 e), .iface 22 (.int .i64 0), .bool true] [] (fun r M => r = .bool (decide (e = 0)) ∧ M = []) := by
  refine fn_y Tryz.func210 Tryz.mixed ?_
  intro w0
  refine V3 ?_
  refine Zgo [(0, 0), (6, 10), (12, 53)] (by kernel_rfl) (fun _ : Unit => True) (fun _ => []) (fun _ => [(0, .iface 22 (.int .i64 e))]) (fun _ => 0) () trivial qI ⟨rfl, trivial⟩ ?_
  intro _ u _
  by_cases h : e = 0
  · refine Y5 ?_
    first|refine Y0 ?_|(refine Zhh rfl ?_; (refine Zhg (Zny (q := .i64) rfl (by kernel_rfl) (by kernel_rfl) rfl rfl) ?_))
    refine Zos 18 rfl (h) ?_
    refine V6 ?_
    refine rx1 (Zha rfl (Zg7)) ?_
    exact ⟨_, ⟨by simp [h], rfl⟩, qI⟩
  · refine Y5 ?_
    first|refine Y0 ?_|(refine Zhh rfl ?_; (refine Zhg (Zny (q := .i64) rfl (by kernel_rfl) (by kernel_rfl) rfl rfl) ?_))
    refine Zot 18 rfl (h) ?_
    refine Y5 ?_
    refine Zhg (Znv rfl rfl (by kernel_rfl) rfl) ?_
    refine Y11 ?_
    refine Zhi rfl ?_
    refine Y7 ?_
    refine Zhg (Znv rfl rfl (by kernel_rfl) rfl) ?_
    refine Y5 ?_
    refine Zhg (Znv rfl rfl (by kernel_rfl) rfl) ?_
    refine V10 ?_
    refine rx1 (Zha rfl (Zg7)) ?_
    exact ⟨_, ⟨by simp [h], rfl⟩, qI⟩
theorem is_x (e : Int) : Con Tryz.prog 189 [.iface 22 (.int .i64 e), .iface 22 (.int .i64 0)] [] (fun r M => r = .bool (decide (e = 0)) ∧ M = []) := by
  refine fn_y Tryz.func189 Tryz.mixed ?_
  intro w0
  refine Y5 ?_
  refine Zhg (Znw (by kernel_rfl) rfl rfl) ?_
  refine Y2 ?_
  first|refine Y0 ?_|(refine Zhh rfl ?_; (refine Zhg (Znw (by kernel_rfl) rfl rfl) ?_))
  refine Y5 ?_
  refine Zhg (Zh9 rfl (ext_typeOf 0) rfl) ?_
  refine Zhg (Znu rfl met_comparable ext_comparable rfl) ?_
  refine Y6 ?_
  refine Zor (c := is2_x e) (k := ?_)
  rintro _ _ ⟨rfl, rfl⟩
  refine V3 ?_
  refine rx1 (Zha rfl (Zg7)) ?_
  exact ⟨_, ⟨rfl, rfl⟩, qI⟩
theorem fails_x (e : Int) : Con Tryz.prog 155 [.iface 22 (.int .i64 e)] [] (fun r M => r = .bool (!decide (e = 0)) ∧ M = []) := by
  refine fn_y Tryz.func155 Tryz.mixed ?_
  intro w0
  refine Y6 ?_
  refine Zor (c := is_x e) (k := ?_)
  rintro _ _ ⟨rfl, rfl⟩
  refine Y1 ?_
  refine Zhg (Zb0 rfl) ?_
  refine V2 ?_
  refine rx1 (Zha rfl (Zg7)) ?_
  exact ⟨_, ⟨rfl, rfl⟩, qI⟩
end Go.Sl
namespace Go.Sl
open Go Go.Proofs
attribute [local irreducible] pt own old pur ex all den denOps denS xOps xC cX CX xthen xblk xcut xloop xng retX resX Calls PV Rd Con
abbrev plc (p : Plc) : Array Value := #[u64b p.round, u32b p.counter, u32b p.page, u32b p.version]
def plits (p : Plc) : List Lit := [.int .u64 p.round.toNat, .int .u32 p.counter.toNat, .int .u32 p.page.toNat, .int .u32 p.version.toNat]
theorem wf_u64 (x : BitVec 64) : (Lit.int .u64 (x.toNat : Int)).wf = true := by
  have := x.isLt
  simp only [Lit.wf, Bool.and_eq_true, decide_eq_true_eq]
  have e1 : IntKind.u64.min = 0 := by decide
  have e2 : IntKind.u64.max = 18446744073709551615 := by decide
  omega
theorem wf_u32 (x : BitVec 32) : (Lit.int .u32 (x.toNat : Int)).wf = true := by
  have := x.isLt
  simp only [Lit.wf, Bool.and_eq_true, decide_eq_true_eq]
  have e1 : IntKind.u32.min = 0 := by decide
  have e2 : IntKind.u32.max = 4294967295 := by decide
  omega
theorem plits_is (p : Plc) : Tryz.prog.keyLits 4 189 (plc p).toList = some (plits p) := by
  have i1 := lits_int (d := 2) Tryz.underlying43 (wf_u64 p.round)
  have i2 := lits_int (d := 2) Tryz.underlying130 (wf_u32 p.counter)
  have i3 := lits_int (d := 2) Tryz.underlying130 (wf_u32 p.page)
  have i4 := lits_int (d := 2) Tryz.underlying130 (wf_u32 p.version)
  have c1 : Tryz.prog.cellsOf 43 = 1 := by kernel_rfl
  have c2 : Tryz.prog.cellsOf 130 = 1 := by kernel_rfl
  have c4 : Tryz.prog.cellsOf 189 = 4 := by kernel_rfl
  unfold Program.keyLits
  rw [Tryz.underlying189]
  simp only [plc, List.length_cons, List.length_nil, c4]
  rw [if_pos (by simp)]
  simp only [List.mapM_cons, List.mapM_nil, c1, c2, List.drop_zero, List.drop_succ_cons, List.take_succ_cons, List.take_zero]
  simp only [i1, i2, i3, i4]
  simp [plits]
theorem plc_form (p : Plc) : (Value.agg (plc p)).formed Tryz.prog 189 = true := by
  have c4 : Tryz.prog.cellsOf 189 = 4 := by kernel_rfl
  simp [Value.formed, Tryz.underlying189, c4]
theorem plits_inj (a b : Plc) : a = b ↔ plits a = plits b := by
  constructor
  · rintro rfl; rfl
  · intro h
    obtain ⟨a1, a2, a3, a4⟩ := a
    obtain ⟨b1, b2, b3, b4⟩ := b
    simp only [plits, List.cons.injEq, Lit.int.injEq, true_and, and_true] at h
    obtain ⟨h1, h2, h3, h4⟩ := h
    have h1 : a1 = b1 := BitVec.eq_of_toNat_eq (by omega)
    have h2 : a2 = b2 := BitVec.eq_of_toNat_eq (by omega)
    have h3 : a3 = b3 := BitVec.eq_of_toNat_eq (by omega)
    have h4 : a4 = b4 := BitVec.eq_of_toNat_eq (by omega)
    rw [h1, h2, h3, h4]
theorem pv_neq_plc {ρ : Env} {x y : Operand} {T' : Nat} (a b : Plc) (hx : ev ρ x = .agg (plc a)) (hy : ev ρ y = .agg (plc b)) : PV Tryz.prog (.binOp .neq 189 x y T') ρ (.bool (decide (¬ a = b))) :=
  Zf7 (m := 4) hx hy (by kernel_rfl) (by omega) (by kernel_rfl) (plc_form a) (plc_form b) (plits_is a) (plits_is b) (plits_inj a b)
attribute [local irreducible] leB
theorem pghead_x (p : Plc) : Con Tryz.prog 153 [.agg (plc p)] [] (fun r M => r = .agg ((headB p).map u8b).toArray ∧ M = []) := by
  have hl := headB_len p
  have hhb : ([] ++ leB p.round 8) ++ leB p.counter 4 = headB p := rfl
  refine fn_y Tryz.func153 Tryz.mixed ?_
  intro w0
  refine Y1 ?_
  refine Zh5 rfl ?_; intro b1
  refine Zhz (cs := ((List.replicate 12 0#8).map u8b).toArray) rfl ?_; intro b2
  refine Y4 ?_
  refine Zor (c := put64_x (L := []) p.round Bs.nil (by simp)) (k := ?_)
  rintro _ _ ⟨pa, pc1, rfl, rfl⟩
  refine Y7 ?_
  refine Zor (c := put32_x (L := [own 5 1 (.slice pa ([] ++ leB p.round 8).length pc1) ([] ++ leB p.round 8).length (([] ++ leB p.round 8).map u8b)]) p.counter (Bs.own .here) (by simp [leB_len])) (k := ?_)
  rintro _ _ ⟨qa, qc, rfl, rfl⟩
  refine Y1 ?_
  rw [hhb, hl]; refine Zg0 (fun F w H => own_some (a := qa) qH (by omega) H) ?_; rintro ⟨g, rfl⟩; refine Zhg (Zl9 rfl (by omega)) ?_
  refine Zfg rfl ((Rd.ag0 (Rd.own qH) (by omega))) ?_
  first|refine Zhy rfl rfl qR qZ qN qZ ?_|refine Zhx rfl rfl qR qZ qN qZ rfl ?_
  refine V1 ?_
  refine rx1 (Zhe rfl qH qZ (Zg7)) ?_
  exact ⟨_, ⟨rfl, rfl⟩, qI⟩
theorem pgmore_x (p : Plc) : Con Tryz.prog 154 [.agg (plc p)] [] (fun r M => ∃ a c, r = .slice a (moreB p).length c ∧ M = [own 5 1 r (moreB p).length ((moreB p).map u8b)]) := by
  have hmb : ([] ++ leB p.page 4) ++ leB p.version 4 = moreB p := rfl
  refine fn_y Tryz.func154 Tryz.mixed ?_
  intro w0
  refine Y1 ?_
  refine Zh5 rfl ?_; intro b1
  refine V2 ?_
  refine Zij ([cl b1 (plc p) 189]) [2, 4] (.q 0 (.q 3 (.r 1 (.r 4 (.e 2 true (.e 5 false (.q 6 .nil))))))) (by kernel_rfl) (by kernel_rfl) (Imp.arr qV) ?_
  refine W4 ?_
  refine Ziq rfl ?_
  refine Zor (c := put32_x (L := []) p.page Bs.nil (by simp)) (k := ?_)
  rintro _ _ ⟨pa, pc1, rfl, rfl⟩
  refine Y1 ?_
  refine Zg3 ⟨fun _ => Imp.arr qV, ?_⟩
  refine Ziq rfl ?_
  refine Zor (c := put32_x (L := [own 5 1 (.slice pa ([] ++ leB p.page 4).length pc1) ([] ++ leB p.page 4).length (([] ++ leB p.page 4).map u8b)]) p.version (Bs.own .here) (by simp [leB_len])) (k := ?_)
  rintro _ _ ⟨qa, qc, rfl, rfl⟩
  refine Y1 ?_
  refine Zg3 ⟨(fun hh => Bool.noConfusion hh), ?_⟩
  refine W2 ?_
  refine Ct.o ?_
  rw [hmb]
  refine rx1 (Zhc rfl (Zg7)) ?_
  exact ⟨_, ⟨qa, qc, rfl, rfl⟩, qI⟩
theorem pgHead_x {L : List Asrt} {v : Value} {b : List Byte} (h : Bs L v b) (hb : b.length ≤ 140737488351232) :
    Con Tryz.prog 151 [v] L (fun r M => r = .tuple #[u64b (pgHeadR b).1, u32b (pgHeadR b).2.1, nvv (pgHeadR b).2.2] ∧ L = M) := by
  refine Con.get (fun w0 w F H => h.sh _ _ _ H) ?_
  rintro ⟨va, vc, rfl, hvc, hvcm⟩
  by_cases h28 : b.length < 28
  · have e : pgHeadR b = (0#64, 0#32, 20) := if_pos h28
    rw [e]
    refine fn_y Tryz.func151 Tryz.mixed ?_
    intro w0
    refine Y9 ?_
    refine Zos 10 rfl (h28) ?_
    refine V7 ?_
    refine rx3 (Zg9 rfl (Zg9 rfl (Zg9 rfl (Zg7)))) ?_
    exact ⟨_, ⟨rfl, rfl⟩, qI⟩
  · have e : pgHeadR b = (lowB 64 (b.take 8), lowB 32 ((b.drop 8).take 4), 0) := if_neg h28
    rw [e]
    have hu := fun p g => u64_x (p := p) (g := g) (o := 0) (len := b.length) (c := b.length) b (by omega) (by omega) (by omega) (by omega) (Nat.le_refl _)
    have hv := fun p g => u32_x (p := p) (g := g) (o := 0 + 8) (len := b.length - 8) (c := b.length - 8) b (by omega) (by omega) (by omega) (by omega) (Nat.le_refl _)
    simp only [List.drop_zero] at hu
    simp only [Nat.zero_add] at hu hv
    refine fn_y Tryz.func151 Tryz.mixed ?_
    intro w0
    refine Y9 ?_
    refine Zot 10 rfl (h28) ?_
    refine Y4 ?_
    refine Zor (c := newReader_x h hb) (k := ?_)
    rintro _ _ ⟨p, g, rfl, rfl⟩
    refine Y5 ?_
    refine Zor (c := hu p g) (k := ?_)
    rintro _ _ ⟨rfl, rfl⟩
    refine Y5 ?_
    refine Zor (c := hv p g) (k := ?_)
    rintro _ _ ⟨rfl, rfl⟩
    refine Y7 ?_
    refine Zor (c := rerr_x) (k := ?_)
    rintro _ _ ⟨rfl, rfl⟩
    refine V5 ?_
    refine rx3 (Zg9 rfl (Zg9 rfl (Zg9 rfl (Zg7)))) ?_
    exact ⟨_, ⟨rfl, rfl⟩, qI⟩
end Go.Sl
namespace Go.Sl
open Go Go.Proofs
attribute [local irreducible] pt own old pur ex all den denOps denS xOps xC cX CX xthen xblk xcut xloop xng retX resX Calls PV Rd Con
attribute [local irreducible] hostA
open PagerS (PS)
abbrev stV (ph : Nat) : Value := .iface 32 (hp ph)
structure PC where
  ph : Nat
  bh : Nat
  oa : Option Addr
  n : Nat
  oc : Nat
  bl : Nat
abbrev phead (s : PS) (c : PC) : List Value := stV c.ph :: s.key.map u8b
abbrev ptail (s : PS) (c : PC) : List Value := [u64b s.round, nvv s.window, .int .i64 s.pages, nvv s.text, .map (some c.bh), .slice c.oa c.n c.oc, .map (some c.bl), nvv s.most, u32b (BitVec.ofNat 32 s.writes), nvv s.err]
def pcl (s : PS) (c : PC) : Array Value := (phead s c ++ ptail s c).toArray
section
variable {s s' : PS} {c c' : PC} {k : Nat} {v : Value}
theorem pg_f (hk : s.key.length = 32) (h : (ptail s c)[k]? = some v) : (pcl s c)[33 + k]? = some v := by
  unfold pcl
  rw [List.getElem?_toArray, List.getElem?_append_right (by simp [hk]), show 33 + k - (phead s c).length = k by simp [hk]]
  exact h
theorem pg_s (hk : s.key.length = 32) (h : (ptail s c).set k v = ptail s' c') (h2 : s'.key = s.key) (h3 : c'.ph = c.ph) : (pcl s c).setIfInBounds (33 + k) v = pcl s' c' := by
  unfold pcl
  apply Array.ext'
  rw [Array.toList_setIfInBounds]
  show (phead s c ++ ptail s c).set (33 + k) v = phead s' c' ++ ptail s' c'
  rw [List.set_append_right _ _ (by simp [hk]), show 33 + k - (phead s c).length = k by simp [hk], h, show phead s' c' = phead s c from by unfold phead; rw [h2, h3]]
theorem pg_size (hk : s.key.length = 32) : (pcl s c).size = 43 := by unfold pcl; simp [hk]
theorem pg_st : (pcl s c)[0]? = some (stV c.ph) := by unfold pcl; simp
theorem pg_key (hk : s.key.length = 32) : (pcl s c).extract 1 (1 + 32) = (s.key.map u8b).toArray := by
  unfold pcl
  apply Array.ext'
  rw [Array.toList_extract, List.extract_eq_take_drop]
  show ((phead s c ++ ptail s c).drop 1).take (1 + 32 - 1) = _
  rw [List.cons_append, List.drop_one, List.tail_cons, List.take_append_of_le_length (by simp [hk]), List.take_of_length_le (by simp [hk])]
end
section
variable {p : Nat} {s : PS} {c : PC}
theorem pPages_x (hk : s.key.length = 32) : Con Tryz.prog 75 [hp p] [cl p (pcl s c) 147] (fun r M => r = .int .i64 s.pages ∧ M = [cl p (pcl s c) 147]) := by
  refine fn_y Tryz.func75 Tryz.mixed ?_
  intro w0
  refine Y6 ?_
  refine Zhn 4 rfl (rfl) ?_
  refine Y6 ?_
  refine Zhp rfl qH (pg_f hk (k := 2) rfl) ?_
  refine V2 ?_
  refine rx1 (Zg9 rfl (Zg7)) ?_
  exact ⟨_, ⟨rfl, rfl⟩, qI⟩
theorem pText_x (hk : s.key.length = 32) : Con Tryz.prog 74 [hp p] [cl p (pcl s c) 147] (fun r M => r = nvv s.text ∧ M = [cl p (pcl s c) 147]) := by
  refine fn_y Tryz.func74 Tryz.mixed ?_
  intro w0
  refine Y6 ?_
  refine Zhn 4 rfl (rfl) ?_
  refine Y6 ?_
  refine Zhp rfl qH (pg_f hk (k := 3) rfl) ?_
  refine V2 ?_
  refine rx1 (Zg9 rfl (Zg7)) ?_
  exact ⟨_, ⟨rfl, rfl⟩, qI⟩
theorem die_x (hk : s.key.length = 32) (e : Nat) : Con Tryz.prog 119 [hp p, nvv e] [cl p (pcl s c) 147] (fun r M => r = nvv e ∧ M = [cl p (pcl (PagerS.die s e) c) 147]) := by
  have hsz := pg_size (c := c) hk
  refine fn_y Tryz.func119 Tryz.mixed ?_
  intro w0
  refine Y8 ?_
  refine Zht rfl rfl qR qZ (pg_s (s' := PagerS.die s e) (c' := c) hk (k := 9) rfl rfl rfl) ?_
  refine V5 ?_
  refine rx1 (Zg9 rfl (Zg7)) ?_
  exact ⟨_, ⟨rfl, rfl⟩, qI⟩
theorem right_x (hk : s.key.length = 32) (n : Int) : Con Tryz.prog 116 [hp p, .int .i64 n] [cl p (pcl s c) 147] (fun r M => r = nvv (PagerS.rightP s n) ∧ M = [cl p (pcl s c) 147]) := by
  unfold PagerS.rightP
  by_cases he : s.err = 0
  · rw [if_neg (fun h => h he)]
    by_cases h0 : n < 0
    · rw [if_pos (.inl h0)]
      refine fn_y Tryz.func116 Tryz.mixed ?_
      intro w0
      refine Y6 ?_
      refine Zhn 6 rfl (rfl) ?_
      refine Y6 ?_
      refine Zhp rfl qH (pg_f hk (k := 9) rfl) ?_
      refine Y1 ?_
      refine Zot 11 rfl ((fun h => h he)) ?_
      refine Y4 ?_
      refine Zhg (Zbn (b := 0) rfl rfl) ?_
      refine Zos 17 rfl (h0) ?_
      refine V13 ?_
      refine rx1 (Zg9 rfl (Zg7)) ?_
      exact ⟨_, ⟨rfl, rfl⟩, qI⟩
    · by_cases h1 : s.pages ≤ n
      · rw [if_pos (.inr h1)]
        refine fn_y Tryz.func116 Tryz.mixed ?_
        intro w0
        refine Y6 ?_
        refine Zhn 6 rfl (rfl) ?_
        refine Y6 ?_
        refine Zhp rfl qH (pg_f hk (k := 9) rfl) ?_
        refine Y1 ?_
        refine Zot 11 rfl ((fun h => h he)) ?_
        refine Y4 ?_
        refine Zhg (Zbn (b := 0) rfl rfl) ?_
        refine Zot 17 rfl (h0) ?_
        refine Y5 ?_
        first|refine Y0 ?_|(refine Zhh rfl ?_; (refine Zhp rfl qH (pg_f hk (k := 2) rfl) ?_))
        refine Y1 ?_
        refine Zos 24 rfl (h1) ?_
        refine V6 ?_
        refine rx1 (Zg9 rfl (Zg7)) ?_
        exact ⟨_, ⟨rfl, rfl⟩, qI⟩
      · rw [if_neg (fun h => h.elim h0 h1)]
        refine fn_y Tryz.func116 Tryz.mixed ?_
        intro w0
        refine Y6 ?_
        refine Zhn 6 rfl (rfl) ?_
        refine Y6 ?_
        refine Zhp rfl qH (pg_f hk (k := 9) rfl) ?_
        refine Y1 ?_
        refine Zot 11 rfl ((fun h => h he)) ?_
        refine Y4 ?_
        refine Zhg (Zbn (b := 0) rfl rfl) ?_
        refine Zot 17 rfl (h0) ?_
        refine Y5 ?_
        first|refine Y0 ?_|(refine Zhh rfl ?_; (refine Zhp rfl qH (pg_f hk (k := 2) rfl) ?_))
        refine Y1 ?_
        refine Zot 24 rfl (h1) ?_
        refine V6 ?_
        refine rx1 (Zg9 rfl (Zg7)) ?_
        exact ⟨_, ⟨rfl, rfl⟩, qI⟩
  · rw [if_pos he]
    refine fn_y Tryz.func116 Tryz.mixed ?_
    intro w0
    refine Y6 ?_
    refine Zhn 6 rfl (rfl) ?_
    refine Y6 ?_
    refine Zhp rfl qH (pg_f hk (k := 9) rfl) ?_
    refine Y1 ?_
    refine Zos 11 rfl (he) ?_
    refine Y6 ?_
    refine Zhp rfl qH (pg_f hk (k := 9) rfl) ?_
    refine V2 ?_
    refine rx1 (Zg9 rfl (Zg7)) ?_
    exact ⟨_, ⟨rfl, rfl⟩, qI⟩
end
end Go.Sl
namespace Go.Sl
open Go Go.Proofs
attribute [local irreducible] pt own old pur ex all den denOps denS xOps xC cX CX xthen xblk xcut xloop xng retX resX Calls PV Rd Con
attribute [local irreducible] hostA pcl
open PagerS (PS)
abbrev FV := PagerS.Fr × Nat × Option Addr × Nat
def frA (e : FV) : Asrt := all [cl e.2.1 #[.slice e.2.2.1 e.1.text.length e.2.2.2, nvv e.1.is] 187, ownB e.2.2.1 e.2.2.2 e.1.text]
def heldF (l : List FV) : Int → Option Value := fun n => (l.find? fun e => e.1.page == n).map fun e => hp e.2.1
def lastF (last : Int → Option Plc) : Int → Option Value := fun n => (last n).map fun q => .agg (plc q)
abbrev fpages (l : List FV) : List Int := l.map fun e => e.1.page
theorem filter_at {zs : List Int} {n : Int} {i : Nat} (hi : i < zs.length) (h : zs[i] = n) (hn : zs.Nodup) : zs.take i ++ zs.drop (i + 1) = zs.filter fun z => !(z == n) := by
  have e : zs = zs.take i ++ (n :: zs.drop (i + 1)) := by rw [← h, ← List.drop_eq_getElem_cons hi, List.take_append_drop]
  have hn2 := hn
  rw [e, List.nodup_append] at hn2
  obtain ⟨_, h2, h3⟩ := hn2
  rw [List.nodup_cons] at h2
  conv => rhs; rw [e]
  rw [List.filter_append, List.filter_cons_of_neg (by simp)]
  have f1 : (zs.take i).filter (fun z => !(z == n)) = zs.take i := List.filter_eq_self.2 fun z hz => by
    have := h3 z hz n (List.mem_cons_self ..)
    simpa using this
  have f2 : (zs.drop (i + 1)).filter (fun z => !(z == n)) = zs.drop (i + 1) := List.filter_eq_self.2 fun z hz => by
    simp only [Bool.not_eq_true', beq_eq_false_iff_ne, ne_eq]
    rintro rfl
    exact h2.1 hz
  rw [f1, f2]
theorem filter_no {zs : List Int} {n : Int} (h : n ∉ zs) : zs.filter (fun z => !(z == n)) = zs := List.filter_eq_self.2 fun z hz => by
  simp only [Bool.not_eq_true', beq_eq_false_iff_ne, ne_eq]
  rintro rfl
  exact h hz
def used (zs : List Int) (n : Int) : List Int := (zs.filter fun z => !(z == n)) ++ [n]
section
variable {p : Nat} {s : PS} {c : PC}
theorem use_x (hk : s.key.length = 32) {zs : List Int} (hz : zs.length ≤ 16) (hn : zs.Nodup) {F : Int → Option Value} (n : Int) (fb : Nat) (hmost : s.most ≤ 16) (hcn : c.n = zs.length) :
    Con Tryz.prog 120 [hp p, .int .i64 n, hp fb] [cl p (pcl s c) 147, fmA c.bh F, ownI c.oa c.oc zs] (fun r M => ∃ oa' oc', M = [cl p (pcl { s with most := max s.most (used zs n).length } { c with oa := oa', n := (used zs n).length, oc := oc' }) 147, fmA c.bh (fput F n (some (hp fb))), ownI oa' oc' (used zs n)]) := by
  obtain ⟨ph, bh, oa, cn, oc, bl⟩ := c
  dsimp only at hcn ⊢
  subst hcn
  by_cases hin : n ∈ zs
  · refine Con.get (fun w0 w F H => own_someN (n := zs.length) (a := oa) (.there (.there .here)) (List.length_pos_of_mem hin) H) ?_
    rintro ⟨g, rfl⟩
    refine fn_y Tryz.func120 Tryz.mixed ?_
    intro w0
    refine Y4 ?_
    refine Zhp rfl qH (pg_f hk (k := 4) rfl) ?_
    refine Y2 ?_
    refine Zof rfl rfl rfl qR ?_
    refine Y5 ?_
    refine Zhp rfl qH (pg_f hk (k := 5) rfl) ?_
    refine Y1 ?_
    refine Zor (c := index_yes (L := [ownI (some ⟨g, 0, none⟩) oc zs]) (Rd.own .here) (by omega) hin) (k := ?_)
    rintro _ _ ⟨⟨i, hi, hzi, rfl⟩, rfl⟩
    refine V3 ?_
    have hs1 := pg_size (s := s) (c := ⟨ph, bh, some ⟨g, 0, none⟩, zs.length, oc, bl⟩) hk
    have hs2 := pg_size (s := s) (c := ⟨ph, bh, some ⟨g, 0, none⟩, zs.length - 1, oc, bl⟩) hk
    refine Y3 ?_
    refine Zos 20 rfl (Nat.zero_le i) ?_
    refine Y7 ?_
    refine Zhp rfl qH (pg_f hk (k := 5) rfl) ?_
    refine Y3 ?_
    refine Zor (c := delete_x hi (by omega)) (k := ?_)
    rintro _ _ ⟨rfl, rfl⟩
    refine Y3 ?_
    refine Zhw rfl rfl qR qZ (pg_s (s := s) (c := ⟨ph, bh, some ⟨g, 0, none⟩, zs.length, oc, bl⟩) (s' := s) (c' := ⟨ph, bh, some ⟨g, 0, none⟩, zs.length - 1, oc, bl⟩) hk (k := 5) rfl rfl rfl) ?_
    refine V1 ?_
    rw [filter_at hi hzi hn]
    have hfl : (zs.filter fun z => !(z == n)).length = zs.length - 1 := by rw [← filter_at hi hzi hn]; simp; omega
    have ez : zv (used zs n) = zv (zs.filter fun z => !(z == n)) ++ [.int .i64 n] := by unfold used; simp
    have hul : (used zs n).length = zs.length - 1 + 1 := by unfold used; rw [List.length_append, hfl]; rfl
    refine Y5 ?_
    refine Zhp rfl qH (pg_f hk (k := 5) rfl) ?_
    refine Y1 ?_
    refine Zh7 (cs := #[.int .i64 _]) (by omega) (by omega) rfl ?_; intro b38
    refine Zia rfl rfl qH (Rd.cl (xs := [.int .i64 n]) qH rfl qZ rfl) qN (by omega) qS ?_; intro a3 c3
    refine Y2 ?_
    refine Zhw rfl rfl qR qZ (pg_s (s := s) (c := ⟨ph, bh, some ⟨g, 0, none⟩, zs.length - 1, oc, bl⟩) (s' := s) (c' := ⟨ph, bh, a3, zs.length - 1 + 1, c3, bl⟩) hk (k := 5) rfl rfl rfl) ?_
    refine V1 ?_
    rw [← hul, ← ez]
    have hs3 := pg_size (s := s) (c := ⟨ph, bh, a3, (used zs n).length, c3, bl⟩) hk
    have hmx : ((max s.most (used zs n).length : Nat) : Int) = max (s.most : Int) ((used zs n).length : Int) := by omega
    refine Ct.o ?_
    refine Zij ([cl p (pcl s ⟨ph, bh, a3, (used zs n).length, c3, bl⟩) 147]) [8, 9] (.q 0 (.q 1 (.q 2 (.q 3 (.q 5 (.q 6 (.q 7 (.r 4 (.r 8 (.r 9 (.q 10 (.q 11 (.q 12 (.e 13 false .nil)))))))))))))) (by kernel_rfl) (by kernel_rfl) (Imp.arr qV) ?_
    refine W7 ?_
    refine Ziv rfl rfl qH (pg_f hk (k := 7) rfl) ?_
    refine Ziv rfl rfl qH (pg_f hk (k := 5) rfl) ?_
    refine W4 ?_
    refine Ziq rfl ?_
    refine Zht rfl rfl qR qZ (pg_s (s := s) (c := ⟨ph, bh, a3, (used zs n).length, c3, bl⟩) (s' := { s with most := max s.most (used zs n).length }) (c' := ⟨ph, bh, a3, (used zs n).length, c3, bl⟩) hk (k := 7) (by rw [← hmx]; rfl) rfl rfl) ?_
    refine Zg3 ⟨(fun hh => Bool.noConfusion hh), ?_⟩
    refine Zik ?_
    refine Ct.o ?_
    first|refine rx0 ?_|refine rx0n ?_
    exact ⟨_, ⟨a3, c3, rfl⟩, qI⟩
  · refine fn_y Tryz.func120 Tryz.mixed ?_
    intro w0
    refine Y4 ?_
    refine Zhp rfl qH (pg_f hk (k := 4) rfl) ?_
    refine Y2 ?_
    refine Zof rfl rfl rfl qR ?_
    refine Y5 ?_
    refine Zhp rfl qH (pg_f hk (k := 5) rfl) ?_
    refine Y1 ?_
    refine Zor (c := index_no (L := [ownI oa oc zs]) (Rd.own .here) (by omega) hin) (k := ?_)
    rintro _ _ ⟨rfl, rfl⟩
    refine Y5 ?_
    refine Zhg (Zbq (a := -1) (b := 0) rfl rfl) ?_
    refine Zot 20 rfl ((by omega)) ?_
    refine V2 ?_
    have hfl := filter_no hin
    have ez : zv (used zs n) = zv zs ++ [.int .i64 n] := by unfold used; rw [hfl]; simp
    have hs1 := pg_size (s := s) (c := ⟨ph, bh, oa, zs.length, oc, bl⟩) hk
    have hul : (used zs n).length = zs.length + 1 := by unfold used; rw [List.length_append, hfl]; rfl
    refine Y5 ?_
    refine Zhp rfl qH (pg_f hk (k := 5) rfl) ?_
    refine Y1 ?_
    refine Zh7 (cs := #[.int .i64 _]) (by omega) (by omega) rfl ?_; intro b38
    refine Zia rfl rfl qH (Rd.cl (xs := [.int .i64 n]) qH rfl qZ rfl) qN (by omega) qS ?_; intro a3 c3
    refine Y2 ?_
    refine Zhw rfl rfl qR qZ (pg_s (s := s) (c := ⟨ph, bh, oa, zs.length, oc, bl⟩) (s' := s) (c' := ⟨ph, bh, a3, zs.length + 1, c3, bl⟩) hk (k := 5) rfl rfl rfl) ?_
    refine V1 ?_
    rw [← hul, ← ez]
    have hs3 := pg_size (s := s) (c := ⟨ph, bh, a3, (used zs n).length, c3, bl⟩) hk
    have hmx : ((max s.most (used zs n).length : Nat) : Int) = max (s.most : Int) ((used zs n).length : Int) := by omega
    refine Ct.o ?_
    refine Zij ([cl p (pcl s ⟨ph, bh, a3, (used zs n).length, c3, bl⟩) 147]) [8, 9] (.q 0 (.q 1 (.q 2 (.q 3 (.q 5 (.q 6 (.q 7 (.r 4 (.r 8 (.r 9 (.q 10 (.q 11 (.q 12 (.e 13 false .nil)))))))))))))) (by kernel_rfl) (by kernel_rfl) (Imp.arr qV) ?_
    refine W7 ?_
    refine Ziv rfl rfl qH (pg_f hk (k := 7) rfl) ?_
    refine Ziv rfl rfl qH (pg_f hk (k := 5) rfl) ?_
    refine W4 ?_
    refine Ziq rfl ?_
    refine Zht rfl rfl qR qZ (pg_s (s := s) (c := ⟨ph, bh, a3, (used zs n).length, c3, bl⟩) (s' := { s with most := max s.most (used zs n).length }) (c' := ⟨ph, bh, a3, (used zs n).length, c3, bl⟩) hk (k := 7) (by rw [← hmx]; rfl) rfl rfl) ?_
    refine Zg3 ⟨(fun hh => Bool.noConfusion hh), ?_⟩
    refine Zik ?_
    refine Ct.o ?_
    first|refine rx0 ?_|refine rx0n ?_
    exact ⟨_, ⟨a3, c3, rfl⟩, qI⟩
end
end Go.Sl
namespace Go.Sl
open Go Go.Proofs
attribute [local irreducible] pt own old pur ex all den denOps denS xOps xC cX CX xthen xblk xcut xloop xng retX resX Calls PV Rd Con
attribute [local irreducible] hostA
structure TOk (t : HostS.Touch) : Prop where
  op : -9223372036854775808 ≤ t.op ∧ t.op ≤ 9223372036854775807
  page : -9223372036854775808 ≤ t.page ∧ t.page ≤ 9223372036854775807
  len : -9223372036854775808 ≤ t.len ∧ t.len ≤ 9223372036854775807
  h12 : t.head.length = 12
def tlits (t : HostS.Touch) : List Lit := .int .i64 t.op :: .int .i64 t.page :: .int .i64 t.len :: t.head.map fun b => Lit.int .u8 (b.toNat : Int)
theorem wf_i64 {n : Int} (h : -9223372036854775808 ≤ n ∧ n ≤ 9223372036854775807) : (Lit.int .i64 n).wf = true := by
  simp only [Lit.wf, Bool.and_eq_true, decide_eq_true_eq]
  have e1 : IntKind.i64.min = -9223372036854775808 := by decide
  have e2 : IntKind.i64.max = 9223372036854775807 := by decide
  omega
theorem tlits_is (t : HostS.Touch) (h : TOk t) : Tryz.prog.keyLits 4 158 (tcells t) = some (tlits t) := by
  obtain ⟨op, page, len, head⟩ := t
  have c3 : Tryz.prog.cellsOf 3 = 1 := by kernel_rfl
  have c5 : Tryz.prog.cellsOf 5 = 1 := by kernel_rfl
  have c61 : Tryz.prog.cellsOf 156 = 12 := by kernel_rfl
  have c63 : Tryz.prog.cellsOf 158 = 15 := by kernel_rfl
  have h12 : head.length = 12 := h.h12
  have e1 := lits_arr (d := 1) (k := .u8) Tryz.underlying156 Tryz.underlying5 c5 c61 (head.map fun b => (b.toNat : Int)) (by simpa using h12) (by
    intro x hx
    obtain ⟨b, _, rfl⟩ := List.mem_map.1 hx
    exact byte_wf b)
  rw [List.map_map, List.map_map] at e1
  have i1 := lits_int (d := 2) Tryz.underlying3 (wf_i64 h.op)
  have i2 := lits_int (d := 2) Tryz.underlying3 (wf_i64 h.page)
  have i3 := lits_int (d := 2) Tryz.underlying3 (wf_i64 h.len)
  unfold Program.keyLits
  rw [Tryz.underlying158]
  have hl : (tcells ⟨op, page, len, head⟩).length = 15 := by simp [tcells, h12]
  simp only [hl, c63, true_and]
  rw [if_pos (by simp)]
  have hh : List.take 12 (List.map u8b head) = List.map (Value.int IntKind.u8 ∘ fun b : Byte => (b.toNat : Int)) head := List.take_of_length_le (by simp [h12])
  simp only [List.mapM_cons, List.mapM_nil, tcells, c3, c61, List.drop_zero, List.cons_append, List.nil_append, List.drop_succ_cons, List.take_succ_cons, List.take_zero, hh]
  simp only [i1, i2, i3, e1]
  simp [tlits, Function.comp_def]
abbrev OTouch := { t : HostS.Touch // TOk t }
def ocells (t : OTouch) : List Value := tcells t.1
theorem ocells_len (t : OTouch) : (ocells t).length = 15 := by simp [ocells, tcells, t.2.h12]
theorem sub_of {l : List HostS.Touch} (h : ∀ t ∈ l, TOk t) : ∃ l' : List OTouch, l = l'.map (·.1) := by
  induction l with
  | nil => exact ⟨[], rfl⟩
  | cons t r ih =>
    obtain ⟨l', h'⟩ := ih (fun x hx => h x (.tail _ hx))
    exact ⟨⟨t, h t (.head _)⟩ :: l', congrArg (t :: ·) h'⟩
theorem tform (t : OTouch) : (Value.agg (ocells t).toArray).formed Tryz.prog 158 = true := by
  have c63 : Tryz.prog.cellsOf 158 = 15 := by kernel_rfl
  simp [Value.formed, Tryz.underlying158, c63, ocells_len]
theorem tlits_inj (a b : HostS.Touch) : a = b ↔ tlits a = tlits b := by
  constructor
  · rintro rfl; rfl
  · intro h
    obtain ⟨a1, a2, a3, a4⟩ := a
    obtain ⟨b1, b2, b3, b4⟩ := b
    simp only [tlits, List.cons.injEq, Lit.int.injEq, true_and] at h
    obtain ⟨rfl, rfl, rfl, h⟩ := h
    rw [ba_inj.2 h]
theorem pv_neq_touch {ρ : Env} {x y : Operand} {T' : Nat} (a b : OTouch) (hx : ev ρ x = .agg (ocells a).toArray) (hy : ev ρ y = .agg (ocells b).toArray) : PV Tryz.prog (.binOp .neq 158 x y T') ρ (.bool (decide (¬ a.1 = b.1))) :=
  Zf7 (m := 4) hx hy (by kernel_rfl) (by omega) (by kernel_rfl) (tform a) (tform b) (tlits_is a.1 a.2) (tlits_is b.1 b.2) (tlits_inj a.1 b.1)
end Go.Sl
namespace Go.Sl
open Go Go.Proofs
attribute [local irreducible] pt own old pur ex all den denOps denS xOps xC cX CX xthen xblk xcut xloop xng retX resX Calls PV Rd Con
theorem new_c (key : List Byte) (hk : key.length = 32) : Con Tryz.prog 226 [.agg (key.map u8b).toArray] [] (fun v M => ∃ p, v = .pointer (some ⟨p, 0, none⟩) ∧ M = [cl p (pc (newS key)) 320]) := by
  refine fn_y Tryz.func226 Tryz.mixed ?_
  intro w0
  refine Y1 ?_
  refine Zh5 rfl ?_; intro b1
  refine Y3 ?_
  refine Zhg (Zdm (cs := #[u64b 0#64, u64b 0#64, u64b 0#64, u64b 0#64, u64b 0#64, u64b 0#64, u64b 0#64, u8b 0#8, u8b 0#8, u8b 0#8, u8b 0#8, u8b 0#8, u8b 0#8, u8b 0#8, u8b 0#8, u8b 0#8, u8b 0#8, u8b 0#8, u8b 0#8, u8b 0#8, u8b 0#8, u8b 0#8, u8b 0#8, .int .i64 0]) (by kernel_rfl)) ?_
  refine Zh5 rfl ?_; intro b5
  refine V2 ?_
  refine Zij (_) [] (.q 0 (.q 1 (.q 2 (.q 6 (.q 7 (.r 3 (.e 4 false (.q 5 (.q 8 (.e 9 false .nil)))))))))) (by kernel_rfl) (by kernel_rfl) (Imp.refl _) ?_
  refine W1 ?_
  refine Zim rfl (Zmy (h := 8) rfl rfl) ?_
  refine Zim rfl (Zl9 rfl) ?_
  refine W2 ?_
  refine Zix (n := 8) rfl rfl qH qZ (ext_map _ _ _) ?_
  refine Ziq rfl ?_
  refine Zor (c := word_c (List.take 8 key) (by simp; omega)) (k := ?_)
  rintro _ _ ⟨rfl, rfl⟩
  refine Y1 ?_
  refine Zg3 ⟨(fun hh => Bool.noConfusion hh), ?_⟩
  refine Zim rfl (Zlf (y := 1152921487695413247#64) rfl rfl) ?_
  first|refine Zim rfl (Zl5 (n := 0) rfl rfl) ?_|refine Zim rfl (Zl3 (n := 0) rfl rfl) ?_
  refine Ziq rfl ?_
  refine Y1 ?_
  refine Zg3 ⟨(fun hh => Bool.noConfusion hh), ?_⟩
  refine Zik ?_
  refine Ct.o ?_
  refine Zij (_) [] (.q 0 (.q 1 (.q 2 (.q 6 (.q 7 (.r 3 (.e 4 false (.q 5 (.q 8 (.e 9 false .nil)))))))))) (by kernel_rfl) (by kernel_rfl) (Imp.refl _) ?_
  refine W1 ?_
  refine Zim rfl (Zmx (l := 8) (h := 16) rfl rfl rfl) ?_
  refine Zim rfl (Zl9 rfl) ?_
  refine W2 ?_
  refine Zix (n := 8) rfl rfl qH qZ (ext_map _ _ _) ?_
  refine Ziq rfl ?_
  refine Zor (c := word_c ((key.drop 8).take 8) (by simp; omega)) (k := ?_)
  rintro _ _ ⟨rfl, rfl⟩
  refine Y1 ?_
  refine Zg3 ⟨(fun hh => Bool.noConfusion hh), ?_⟩
  refine Zim rfl (Zlf (y := 1152921487695413244#64) rfl rfl) ?_
  first|refine Zim rfl (Zl5 (n := 1) rfl rfl) ?_|refine Zim rfl (Zl3 (n := 1) rfl rfl) ?_
  refine Ziq rfl ?_
  refine Y1 ?_
  refine Zg3 ⟨(fun hh => Bool.noConfusion hh), ?_⟩
  refine Zik ?_
  refine Ct.o ?_
  refine Zij (_) [] (.q 0 (.q 1 (.q 2 (.q 5 (.q 6 (.r 3 (.e 4 false (.q 7 (.e 8 false .nil))))))))) (by kernel_rfl) (by kernel_rfl) (Imp.refl _) ?_
  refine W1 ?_
  refine Zim rfl (Zmx (l := 16) (h := 24) rfl rfl rfl) ?_
  refine Zim rfl (Zl9 rfl) ?_
  refine W2 ?_
  refine Zix (n := 8) rfl rfl qH qZ (ext_map _ _ _) ?_
  refine Ziq rfl ?_
  refine Zor (c := word_c ((key.drop 16).take 8) (by simp; omega)) (k := ?_)
  rintro _ _ ⟨rfl, rfl⟩
  refine Y1 ?_
  refine Zg3 ⟨(fun hh => Bool.noConfusion hh), ?_⟩
  first|refine Zim rfl (Zl5 (n := 0) rfl rfl) ?_|refine Zim rfl (Zl3 (n := 0) rfl rfl) ?_
  refine Ziq rfl ?_
  refine Y1 ?_
  refine Zg3 ⟨(fun hh => Bool.noConfusion hh), ?_⟩
  refine Zik ?_
  refine Ct.o ?_
  refine Zij (_) [] (.q 0 (.q 1 (.q 2 (.q 5 (.q 6 (.r 3 (.e 4 false (.q 7 (.e 8 false .nil))))))))) (by kernel_rfl) (by kernel_rfl) (Imp.refl _) ?_
  refine W1 ?_
  refine Zim rfl (Zmx (l := 24) (h := 32) rfl rfl rfl) ?_
  refine Zim rfl (Zl9 rfl) ?_
  refine W2 ?_
  refine Zix (n := 8) rfl rfl qH qZ (ext_map _ _ _) ?_
  refine Ziq rfl ?_
  refine Zor (c := word_c ((key.drop 24).take 8) (by simp; omega)) (k := ?_)
  rintro _ _ ⟨rfl, rfl⟩
  refine Y1 ?_
  refine Zg3 ⟨(fun hh => Bool.noConfusion hh), ?_⟩
  first|refine Zim rfl (Zl5 (n := 1) rfl rfl) ?_|refine Zim rfl (Zl3 (n := 1) rfl rfl) ?_
  refine Ziq rfl ?_
  refine Y1 ?_
  refine Zg3 ⟨(fun hh => Bool.noConfusion hh), ?_⟩
  refine Zik ?_
  refine V4 ?_
  refine rx1 (Zhb rfl (Zg7)) ?_
  have e : (key.drop 24).take 8 = key.drop 24 := List.take_of_length_le (by simp; omega)
  rw [e]
  exact ⟨_, ⟨b5, rfl, rfl⟩, by exact Imp.arr (by repeat (first|exact Arr.nil|exact Arr.stop|refine Arr.cons (by repeat constructor) ?_|refine Arr.skip ?_))⟩
theorem take_c {p : Nat} (t : PolyS) (ht : t.rest.length = 16) (b : List Byte) (hb : b.length = 16) (top : BitVec 64) : Con Tryz.prog 245 [.pointer (some ⟨p, 0, none⟩), .agg (b.map u8b).toArray, u64b top] [cl p (pc t) 320]
    (fun v M => v = .tuple #[] ∧ M = [cl p (pc (setH t (takeW t.h t.r b top))) 320]) := by
  have hsz := pc_size ht
  refine fn_y Tryz.func245 Tryz.mixed ?_
  intro w0
  refine Y1 ?_
  refine Zh5 rfl ?_; intro b4
  refine Y5 ?_
  refine Zhq (n := 3) rfl qH qZ (pc_h t) ?_
  refine Zhz (cs := #[u64b 0#64, u64b 0#64, u64b 0#64]) rfl ?_; intro b6
  first|refine Zhy rfl rfl qR qZ qN qZ ?_|refine Zhx rfl rfl qR qZ qN qZ rfl ?_
  refine V4 ?_
  refine Zij (_) [4, 5] (.q 0 (.q 2 (.q 3 (.r 1 (.r 4 (.e 5 true (.q 6 (.q 7 (.q 8 (.q 9 (.q 10 (.e 11 false (.q 12 .nil))))))))))))) (by kernel_rfl) (by kernel_rfl) (Imp.refl _) ?_
  first|refine Zim rfl (Zl5 (n := 0) rfl rfl) ?_|refine Zim rfl (Zl3 (n := 0) rfl rfl) ?_
  refine Zim rfl (Zmy (h := 8) rfl rfl) ?_
  refine Zim rfl (Zl9 rfl) ?_
  refine W1 ?_
  refine Zix (n := 8) rfl rfl qH qZ (ext_map _ _ _) ?_
  refine Ziq rfl ?_
  refine Zor (c := word_c _ (by simp; omega)) (k := ?_)
  rintro _ _ ⟨rfl, rfl⟩
  refine Y1 ?_
  refine Zg3 ⟨fun _ => Imp.arr qV, ?_⟩
  refine Zim rfl (Zh9 rfl (ext_add64 _ _ 0#64 (by decide)) rfl) ?_
  refine W3 ?_
  first|refine Zim rfl (Zl5 (n := 0) rfl rfl) ?_|refine Zim rfl (Zl3 (n := 0) rfl rfl) ?_
  refine Ziq rfl ?_
  refine Y1 ?_
  refine Zg3 ⟨(fun hh => Bool.noConfusion hh), ?_⟩
  refine W2 ?_
  refine Ct.o ?_
  refine Zij (_) [4, 5] (.q 0 (.q 2 (.q 3 (.q 6 (.r 1 (.r 4 (.e 5 true (.q 7 (.q 8 (.q 9 (.q 10 (.q 11 (.e 12 false (.q 13 .nil)))))))))))))) (by kernel_rfl) (by kernel_rfl) (Imp.refl _) ?_
  first|refine Zim rfl (Zl5 (n := 1) rfl rfl) ?_|refine Zim rfl (Zl3 (n := 1) rfl rfl) ?_
  refine Zim rfl (Zmx (l := 8) (h := 16) rfl rfl rfl) ?_
  refine Zim rfl (Zl9 rfl) ?_
  refine W2 ?_
  refine Zix (n := 8) rfl rfl qH qZ (ext_map _ _ _) ?_
  refine Ziq rfl ?_
  refine Zor (c := word_c _ (by simp; omega)) (k := ?_)
  rintro _ _ ⟨rfl, rfl⟩
  refine Y1 ?_
  refine Zg3 ⟨fun _ => Imp.arr qV, ?_⟩
  refine Zim rfl (Zh9 rfl (ext_add64 _ _ _ (carry_le _ _ _ (by decide))) rfl) ?_
  refine W3 ?_
  first|refine Zim rfl (Zl5 (n := 1) rfl rfl) ?_|refine Zim rfl (Zl3 (n := 1) rfl rfl) ?_
  refine Ziq rfl ?_
  refine Y1 ?_
  refine Zg3 ⟨(fun hh => Bool.noConfusion hh), ?_⟩
  refine W2 ?_
  refine Y1 ?_
  first|refine Zhg (Zl5 (n := 2) rfl rfl) ?_|refine Zhg (Zl3 (n := 2) rfl rfl) ?_
  refine Y5 ?_
  first|refine Zhg (Zl5 (n := 2) rfl rfl) ?_|refine Zhg (Zl3 (n := 2) rfl rfl) ?_
  refine V2 ?_
  refine Zij (_) [5] (.q 0 (.q 2 (.q 3 (.q 4 (.r 1 (.r 5 (.e 6 false (.q 7 (.q 8 (.e 9 false .nil)))))))))) (by kernel_rfl) (by kernel_rfl) (Imp.refl _) ?_
  refine W5 ?_
  refine Zix (n := 2) rfl rfl qH qZ (pc_r t) ?_
  refine Ziq rfl ?_
  refine Zor (c := times_c (_, _, _) _) (k := ?_)
  rintro _ _ ⟨rfl, rfl⟩
  refine Y1 ?_
  refine Zg3 ⟨(fun hh => Bool.noConfusion hh), ?_⟩
  refine W2 ?_
  refine Ziq rfl ?_
  first|refine Zhy rfl rfl qR qZ qN qZ ?_|refine Zhx rfl rfl qR qZ qN qZ (pc_setH _ _) ?_
  refine Zg3 ⟨(fun hh => Bool.noConfusion hh), ?_⟩
  refine Zik ?_
  refine Ct.o ?_
  first|refine rx0 ?_|refine rx0n ?_
  have e : (b.drop 8).take (16 - 8) = b.drop 8 := List.take_of_length_le (by simp; omega)
  rw [e]
  exact ⟨_, ⟨rfl, rfl⟩, by exact Imp.arr (by repeat (first|exact Arr.nil|exact Arr.stop|refine Arr.cons (by repeat constructor) ?_|refine Arr.skip ?_))⟩
end Go.Sl
namespace Go.Sl
open Go Go.Proofs
attribute [local irreducible] pt own old pur ex all den denOps denS xOps xC cX CX xthen xblk xcut xloop xng retX resX Calls PV Rd Con
attribute [local irreducible] pc writeS takeW full put1 setU setH
theorem setU_put1 (t : PolyS) (x : List Byte) : setU (setU (put1 t x) t.used) (t.used + x.length) = put1 t x := by unfold setU put1; rfl
theorem setU_used {t : PolyS} {n : Nat} (h : (setU t n).rest.length = 16) : (pc (setU t n))[23]? = some (.int .i64 n) := by
  rw [pc_used h]; unfold setU; rfl
theorem write_c {p : Nat} {L : List Asrt} (t : PolyS) (ht : PolyOk t) (b : List Byte) (a : Option Addr) (c : Nat) (hc : b.length ≤ c) (hcm : c ≤ 9223372036854775807) (hv : Rd L 1 (.slice a b.length c) b.length (b.map u8b)) :
    Con Tryz.prog 227 [.pointer (some ⟨p, 0, none⟩), .slice a b.length c] (cl p (pc t) 320 :: L)
      (fun v M => v = .tuple #[.int .i64 b.length, .nilIface] ∧ M = cl p (pc (writeS t b)) 320 :: L) := by
  refine fn_y Tryz.func227 Tryz.mixed ?_
  intro w0
  refine V13 ?_
  refine Zgo [(6, 7), (12, 49)] (by kernel_rfl)
    (fun s : Nat × Option Addr × Nat × Nat => s.2.2.2 = b.length - s.1 ∧ s.1 ≤ b.length ∧ b.length - s.1 ≤ s.2.2.1 ∧ Rd L 1 (.slice s.2.1 (b.length - s.1) s.2.2.1) (b.length - s.1) ((b.drop s.1).map u8b))
    (fun s => cl p (pc (writeS t (b.take s.1))) 320 :: L) (fun s => [(6, .slice s.2.1 s.2.2.2 s.2.2.1)]) (fun s => b.length - s.1) (0, a, c, b.length) ⟨rfl, Nat.zero_le _, hc, hv⟩ (by dsimp only; rw [writeS_zero]; exact Imp.refl _) ⟨rfl, trivial⟩ ?_
  rintro ⟨i, a, c, n⟩ u ⟨hn, hi, hc, hv⟩
  dsimp only at hn hi hc hv ⊢
  subst hn
  have hti : PolyOk (writeS t (b.take i)) := writeS_ok ht
  generalize hT : writeS t (b.take i) = T at hti
  have hu := hti.used
  have hsz := pc_size hti.rest
  refine V5 ?_
  refine Zgg rfl (fun hB => ?_) (fun hB => ?_)
  · obtain ⟨m, hm⟩ : ∃ m, m = min (b.length - i) (16 - T.used) := ⟨_, rfl⟩
    have hm0 : 0 < m := by omega
    obtain ⟨x, hx⟩ : ∃ x, x = (b.drop i).take m := ⟨_, rfl⟩
    have hxl : x.length = m := by rw [hx]; simp; omega
    have htot : b.take (i + m) = b.take i ++ x := by rw [hx, List.take_add]
    have hw : writeS t (b.take (i + m)) = full (put1 T x) := by rw [htot, writeS_append, hT, write_put hti (by omega)]
    have hcp : wr (pc T) (7 + T.used) (((b.drop i).map u8b).take (m * 1)) = pc (setU (put1 T x) T.used) := by
      rw [← pc_copy hti.rest (by omega), ← List.map_take, Nat.mul_one, ← hx]
    have hpr : (put1 T x).rest.length = 16 := put1_rest hti (by omega)
    have hpru : (setU (put1 T x) T.used).rest.length = 16 := by unfold setU; exact hpr
    have hsz2 : (pc (setU (put1 T x) T.used)).size = 24 := pc_size hpru
    have hsz3 : (pc (put1 T x)).size = 24 := pc_size hpr
    have hs1 : (pc (setU (put1 T x) T.used)).setIfInBounds 23 (.int .i64 ((T.used + m : Nat) : Int)) = pc (put1 T x) := by
      rw [pc_setUsed (t := setU (put1 T x) T.used) hpru (T.used + m), ← hxl, setU_put1]
    have hv2 : Rd L 1 (.slice (if c = m then a else a.map (·.add (m * 1))) (b.length - (i + m)) (c - m)) (b.length - (i + m)) ((b.drop (i + m)).map u8b) := by
      have := hv.cut (l := m) (by omega) hc
      rw [← List.map_drop, List.drop_drop] at this
      rwa [show b.length - (i + m) = b.length - i - m by omega]
    refine Ct.o ?_
    refine Zij (_) [] (.q 0 (.q 1 (.q 2 (.q 3 (.q 4 (.q 5 (.q 8 (.r 6 (.q 7 (.e 9 false (.q 10 .nil))))))))))) (by kernel_rfl) (by kernel_rfl) (Imp.refl _) ?_
    refine W7 ?_
    refine Ziv rfl rfl qH (pc_used hti.rest) ?_
    refine Zim rfl (Zmx (h := 16) rfl rfl rfl) ?_
    refine Ziq rfl ?_; refine Zib (c' := pc (setU (put1 T x) T.used)) rfl rfl (hv.imp Imp.tail) qR (by rw [hsz]; omega) (oneM_u8 _) (by rw [← hm]; exact hcp) ?_; refine Zg3 ⟨(fun hh => Bool.noConfusion hh), ?_⟩
    refine W2 ?_
    refine Ct.o ?_
    rw [← hm]
    refine Y4 ?_
    refine Zhp rfl qH (setU_used hpru) ?_
    refine Y4 ?_
    refine Zht rfl rfl qR qZ (hs1) ?_
    refine Y4 ?_
    refine Zhg (Zm1 (l := m) (h := b.length - i) rfl rfl rfl (by omega) (by omega)) ?_
    refine Y6 ?_
    refine Zhp rfl qH (pc_used hpr) ?_
    refine V2 ?_
    rw [show b.length - i - m = b.length - (i + m) by omega]
    refine Zgg rfl (fun hB2 => ?_) (fun hB2 => ?_)
    · have hprh : (setH (put1 T x) (takeW (put1 T x).h (put1 T x).r (put1 T x).rest 1#64)).rest.length = 16 := by unfold setH; exact hpr
      have hfull : full (put1 T x) = setU (setH (put1 T x) (takeW (put1 T x).h (put1 T x).r (put1 T x).rest 1#64)) 0 := by rw [full, if_pos hB2]
      have hsz4 : (pc (setH (put1 T x) (takeW (put1 T x).h (put1 T x).r (put1 T x).rest 1#64))).size = 24 := pc_size hprh
      have hs2 : (pc (setH (put1 T x) (takeW (put1 T x).h (put1 T x).r (put1 T x).rest 1#64))).setIfInBounds 23 (.int .i64 0) = pc (writeS t (b.take (i + m))) := by
        rw [hw, hfull]
        exact pc_setUsed hprh 0
      refine Y5 ?_
      refine Zhq (n := 16) rfl qH qZ (pc_rest hpr) ?_
      refine Zor (c := take_c _ hpr _ hpr 1#64) (k := ?_)
      rintro _ _ ⟨rfl, rfl⟩
      refine Y6 ?_
      refine Zht rfl rfl qR qZ (hs2) ?_
      refine V1 ?_
      exact Zgl (i + m, _, _, _) (by dsimp only; omega) ⟨rfl, by dsimp only; omega, by dsimp only; omega, hv2⟩ qI ⟨rfl, trivial⟩
    · have hw2 : writeS t (b.take (i + m)) = put1 T x := by rw [hw, full, if_neg hB2]
      rw [← hw2]
      refine Ct.o ?_
      exact Zgl (i + m, _, _, _) (by dsimp only; omega) ⟨rfl, by dsimp only; omega, by dsimp only; omega, hv2⟩ qI ⟨rfl, trivial⟩
  · have hie : i = b.length := by omega
    have hw : T = writeS t b := by rw [← hT, List.take_of_length_le (by omega)]
    refine V6 ?_
    refine rx2 (Zg9 rfl (Zg8 rfl (Zg7))) ?_
    rw [hw]
    exact ⟨_, ⟨rfl, rfl⟩, by exact Imp.arr (by repeat (first|exact Arr.nil|exact Arr.stop|refine Arr.cons (by repeat constructor) ?_|refine Arr.skip ?_))⟩
end Go.Sl
namespace Go.Sl
open Go Go.Proofs
attribute [local irreducible] pt own old pur ex all den denOps denS xOps xC cX CX xthen xblk xcut xloop xng retX resX Calls PV Rd Con
attribute [local irreducible] pc writeS takeW full put1 setU setH
theorem sum_c {p : Nat} (t : PolyS) (ht : PolyOk t) : Con Tryz.prog 228 [.pointer (some ⟨p, 0, none⟩)] [cl p (pc t) 320] (fun v M => v = .agg ((sumS t).map u8b).toArray ∧ M = [cl p (pc t) 320]) := by
  have hr := ht.rest
  have hu := ht.used
  have hsz := pc_size hr
  refine fn_y Tryz.func228 Tryz.mixed ?_
  intro w0
  refine Y1 ?_
  refine Zhz (cs := ((List.replicate 16 0#8).map u8b).toArray) rfl ?_; intro b2
  refine Y10 ?_
  refine Zhz (cs := #[u64b 0#64, u64b 0#64, u64b 0#64, u64b 0#64, u64b 0#64, u64b 0#64, u64b 0#64, u8b 0#8, u8b 0#8, u8b 0#8, u8b 0#8, u8b 0#8, u8b 0#8, u8b 0#8, u8b 0#8, u8b 0#8, u8b 0#8, u8b 0#8, u8b 0#8, u8b 0#8, u8b 0#8, u8b 0#8, u8b 0#8, .int .i64 0]) rfl ?_; intro b3
  first|refine Zhy rfl rfl qR qZ (by first|rfl|exact oneM_u8 _|exact oneL_u8 _|exact pc_one _|(simp [oneC]; done)) qZ ?_|refine Zhx rfl rfl qR qZ (by first|rfl|exact oneM_u8 _|exact oneL_u8 _|exact pc_one _|(simp [oneC]; done)) qZ rfl ?_
  refine Y3 ?_
  refine Zhp rfl qH (pc_used hr) ?_
  refine V2 ?_
  refine Zgn [(4, 4), (22, 32)] (by kernel_rfl) (fun _ : Unit => True) (fun _ => [cl b3 (pc (finS t)) 320, cl b2 ((List.replicate 16 0#8).map u8b).toArray 266, cl p (pc t) 320]) (fun _ => []) ?_ ?_
  · refine Zgg rfl (fun hB => ?_) (fun hB => ?_)
    · refine Y1 ?_
      refine Zhz (cs := ((List.replicate 16 0#8).map u8b).toArray) rfl ?_; intro b4
      refine V1 ?_
      refine Zij (_) [] (.q 0 (.q 1 (.q 2 (.r 3 (.q 4 (.e 5 false .nil)))))) (by kernel_rfl) (by kernel_rfl) (Imp.refl _) ?_
      refine Zim rfl (Zmy (h := 16) rfl rfl) ?_
      refine W2 ?_
      refine Ziv rfl rfl qH (pc_used hr) ?_
      refine Zim rfl (Zmy (h := t.used) rfl rfl (by omega) (by omega)) ?_
      refine Ziq rfl ?_
      refine Zib rfl rfl (Rd.cl (xs := (t.rest.take t.used).map u8b) qH (by simp; omega) (by rw [hsz]; omega) (pc_restTake hr (by omega))) qR qZ (by first|rfl|exact oneM_u8 _|exact oneL_u8 _|exact pc_one _|(simp [oneC]; done)) ((by rw [List.take_of_length_le (by simp; omega)]; exact copy_last hr hu : _ = ((t.rest.take t.used ++ List.replicate (16 - t.used) 0#8).map u8b).toArray)) ?_
      refine Zg3 ⟨(fun hh => Bool.noConfusion hh), ?_⟩
      refine Zik ?_
      refine Y2 ?_
      refine Zhp rfl qH (pc_used hr) ?_
      refine Y1 ?_
      refine Zhs rfl (v := u8b 1#8) rfl rfl qR qZ (setL (f := u8b) (l := t.rest.take t.used ++ List.replicate (16 - t.used) 0#8)) ?_
      refine Y3 ?_
      refine Zor (c := take_c t hr (lastB t) (lastB_len hr (by omega)) 0#64) (k := ?_)
      rintro _ _ ⟨rfl, rfl⟩
      refine V2 ?_
      have e : finS t = setH t (takeW t.h t.r (lastB t) 0#64) := by rw [finS, if_pos hB]
      exact Zgk () trivial (by rw [e]; exact Imp.arr (by repeat (first|exact Arr.nil|exact Arr.stop|refine Arr.cons (by repeat constructor) ?_|refine Arr.skip ?_))) trivial
    · refine Ct.o ?_
      have e : finS t = t := by rw [finS, if_neg hB]
      exact Zgk () trivial (by rw [e]; exact Imp.arr (by repeat (first|exact Arr.nil|exact Arr.stop|refine Arr.cons (by repeat constructor) ?_|refine Arr.skip ?_))) trivial
  rintro _ u _
  have hszf : (pc (finS t)).size = 24 := pc_size (by rw [finS_rest]; exact hr)
  refine Y2 ?_
  refine Zhq (n := 3) rfl qH qZ (pc_h _) ?_
  refine Zhz (cs := #[u64b 0#64, u64b 0#64, u64b 0#64]) rfl ?_; intro b5
  first|refine Zhy rfl rfl qR qZ (by first|rfl|exact oneM_u8 _|exact oneL_u8 _|exact pc_one _|(simp [oneC]; done)) qZ ?_|refine Zhx rfl rfl qR qZ (by first|rfl|exact oneM_u8 _|exact oneL_u8 _|exact pc_one _|(simp [oneC]; done)) qZ rfl ?_
  refine Y2 ?_
  first|refine Zhg (Zl5 (n := 0) rfl rfl) ?_|refine Zhg (Zl3 (n := 0) rfl rfl) ?_
  refine Y1 ?_
  refine Zhg (Zh9 rfl (ext_sub64 _ 18446744073709551611#64 0#64 (by decide)) rfl) ?_
  refine Y7 ?_
  first|refine Zhg (Zl5 (n := 1) rfl rfl) ?_|refine Zhg (Zl3 (n := 1) rfl rfl) ?_
  refine Y2 ?_
  refine Zhg (Zh9 rfl (ext_sub64 _ 18446744073709551615#64 _ (borrow_le _ _ _)) rfl) ?_
  refine Y7 ?_
  first|refine Zhg (Zl5 (n := 2) rfl rfl) ?_|refine Zhg (Zl3 (n := 2) rfl rfl) ?_
  refine Y2 ?_
  refine Zhg (Zh9 rfl (ext_sub64 _ 3#64 _ (borrow_le _ _ _)) rfl) ?_
  refine Y7 ?_
  refine Zhg (Zlm rfl) ?_
  refine Y3 ?_
  first|refine Zhg (Zl5 (n := 0) rfl rfl) ?_|refine Zhg (Zl3 (n := 0) rfl rfl) ?_
  refine Y5 ?_
  refine Zhg (Zli rfl rfl) ?_
  refine Y1 ?_
  first|refine Zhg (Zl5 (n := 0) rfl rfl) ?_|refine Zhg (Zl3 (n := 0) rfl rfl) ?_
  refine Y3 ?_
  first|refine Zhg (Zl5 (n := 1) rfl rfl) ?_|refine Zhg (Zl3 (n := 1) rfl rfl) ?_
  refine Y5 ?_
  refine Zhg (Zli rfl rfl) ?_
  refine Y1 ?_
  first|refine Zhg (Zl5 (n := 1) rfl rfl) ?_|refine Zhg (Zl3 (n := 1) rfl rfl) ?_
  refine Y6 ?_
  first|refine Zhg (Zl5 (n := 0) rfl rfl) ?_|refine Zhg (Zl3 (n := 0) rfl rfl) ?_
  refine Y2 ?_
  first|refine Zhg (Zl5 (n := 0) rfl rfl) ?_|refine Zhg (Zl3 (n := 0) rfl rfl) ?_
  refine Zhp rfl qH (pc_s0 _) ?_
  refine Zhg (Zh9 rfl (ext_add64 _ _ 0#64 (by decide)) rfl) ?_
  refine Y3 ?_
  first|refine Zhg (Zl5 (n := 0) rfl rfl) ?_|refine Zhg (Zl3 (n := 0) rfl rfl) ?_
  refine Y4 ?_
  first|refine Zhg (Zl5 (n := 1) rfl rfl) ?_|refine Zhg (Zl3 (n := 1) rfl rfl) ?_
  refine Y2 ?_
  first|refine Zhg (Zl5 (n := 1) rfl rfl) ?_|refine Zhg (Zl3 (n := 1) rfl rfl) ?_
  refine Zhp rfl qH (pc_s1 _) ?_
  refine Y1 ?_
  refine Zhg (Zh9 rfl (ext_add64 _ _ _ (carry_le _ _ _ (by decide))) rfl) ?_
  refine Y3 ?_
  first|refine Zhg (Zl5 (n := 1) rfl rfl) ?_|refine Zhg (Zl3 (n := 1) rfl rfl) ?_
  refine Y3 ?_
  refine Zhz (cs := ((List.replicate 16 0#8).map u8b).toArray) rfl ?_; intro b11
  refine V4 ?_
  refine Zgo [(12, 12), (96, 110)] (by kernel_rfl) (fun i : Nat => i ≤ 16)
    (fun i => [cl b11 ((upto (outB (outW (finS t).h (finS t).s)) i).map u8b).toArray 266, cl b5 (hA ((outW (finS t).h (finS t).s).1, (outW (finS t).h (finS t).s).2, (finS t).h.2.2)) 318, cl b2 ((List.replicate 16 0#8).map u8b).toArray 266, cl p (pc t) 320])
    (fun i => [(96, .int .i64 (i : Int))]) (fun i => 16 - i) 0 (by omega) (by rw [upto_zero]; exact Imp.arr (by repeat (first|exact Arr.nil|exact Arr.stop|refine Arr.cons (by repeat constructor) ?_|refine Arr.skip ?_))) ⟨rfl, trivial⟩ ?_
  intro i u hi
  try dsimp only at hi
  try dsimp only
  generalize hO : outW (finS t).h (finS t).s = O
  have hul : (upto (outB O) i).length = 16 := by simp [upto]
  refine V3 ?_
  refine Zgg rfl (fun hB => ?_) (fun hB => ?_)
  · have hld : (hA (O.1, O.2, (finS t).h.2.2))[i / 8]? = some (u64b (if i / 8 = 0 then O.1 else O.2)) := by
      have : i / 8 = 0 ∨ i / 8 = 1 := by omega
      rcases this with h|h <;> rw [h] <;> rfl
    refine Y9 ?_
    refine Zhp rfl qH (hld) ?_
    refine Y2 ?_
    first|refine Zhg (Zmc (a := 8) rfl rfl) ?_|refine Zhg (Zbi rfl rfl) ?_
    refine Zhg (Zlk rfl rfl) ?_
    refine Zhg (Zlx rfl) ?_
    refine Y1 ?_
    refine Zht rfl rfl qR qZ (setL (f := u8b) (l := upto (outB O) i)) ?_
    refine V5 ?_
    refine Zgl (i + 1) qO qO ?_ ⟨rfl, trivial⟩
    try dsimp only
    rw [← upto_set]
    exact Imp.arr (by repeat (first|exact Arr.nil|exact Arr.stop|refine Arr.cons (by repeat constructor) ?_|refine Arr.skip ?_))
  · have hi16 : i = 16 := by omega
    subst hi16
    rw [upto_end]
    refine Y2 ?_
    first|refine Zhy rfl rfl qR qZ (by first|rfl|exact oneM_u8 _|exact oneL_u8 _|exact pc_one _|(simp [oneC]; done)) qZ ?_|refine Zhx rfl rfl qR qZ (by first|rfl|exact oneM_u8 _|exact oneL_u8 _|exact pc_one _|(simp [oneC]; done)) qZ rfl ?_
    refine V1 ?_
    refine rx1 (Zhe rfl qH qZ (Zg7)) ?_
    rw [← hO]
    exact ⟨_, ⟨rfl, rfl⟩, by exact Imp.arr (by repeat (first|exact Arr.nil|exact Arr.stop|refine Arr.cons (by repeat constructor) ?_|refine Arr.skip ?_))⟩
end Go.Sl
namespace Go.Sl
open Go Go.Proofs
attribute [local irreducible] pt own old pur ex all den denOps denS xOps xC cX CX xthen xblk xcut xloop xng retX resX Calls PV Rd Con
attribute [local irreducible] pc writeS takeW full put1 setU setH code sumS blockB ksB xorB
theorem writeB_x {p : Nat} {L : List Asrt} (t : PolyS) (ht : PolyOk t) {v : Value} {l : List Byte} (h : Bs L v l) :
    Con Tryz.prog 227 [.pointer (some ⟨p, 0, none⟩), v] (cl p (pc t) 320 :: L) (fun r M => r = .tuple #[.int .i64 l.length, .nilIface] ∧ cl p (pc (writeS t l)) 320 :: L = M) := by
  refine Con.get (fun w0 w F H => (h.imp Imp.tail).sh _ _ _ H) ?_
  rintro ⟨a, c, rfl, h1, h2⟩
  refine (write_c (L := L) t ht l a c h1 h2 h.rd).mono ?_
  rintro v M ⟨rfl, rfl⟩
  exact ⟨_, Imp.refl _, rfl, rfl⟩
def msgB (more cover : List Byte) (i : Nat) : List Byte := if i = 0 then [] else if i = 1 then more ++ padB more else (more ++ padB more) ++ (cover ++ padB cover)
theorem msgB_succ (more cover : List Byte) (i : Nat) (h : i < 2) : msgB more cover (i + 1) = (msgB more cover i ++ (if i = 0 then more else cover)) ++ padB (if i = 0 then more else cover) := by
  match i, h with
  | 0, _ => simp [msgB]
  | 1, _ => simp [msgB]
theorem key_cp (b : List Byte) (h : b.length = 64) : wr (((List.replicate 32 0#8).map u8b).toArray) 0 ((b.map u8b).take (min 64 32 * 1)) = ((b.take 32).map u8b).toArray := by
  rw [show min 64 32 * 1 = 32 from rfl, ← List.map_take]
  have := wr_all (((b.take 32).map u8b).toArray) (((List.replicate 32 0#8).map u8b).toArray) (by simp [h])
  exact this
theorem vouch_x {L : List Asrt} (key nonce : List Byte) (hk : key.length = 32) (hn : nonce.length = 12) {vm vc : Value} {more cover : List Byte} (hm : Bs L vm more) (hc : Bs L vc cover) (hml : more.length ≤ 140737488351232) (hcl : cover.length ≤ 140737488351232) :
    Con Tryz.prog 205 [.agg (key.map u8b).toArray, .agg (nonce.map u8b).toArray, vm, vc] L (fun r M => r = .agg ((vouchB key nonce more cover).map u8b).toArray ∧ L = M) := by
  refine Con.get (fun w0 w F H => hm.sh _ _ _ H) ?_
  rintro ⟨ma, mc, rfl, hmc, hmcm⟩
  refine Con.get (fun w0 w F H => hc.sh _ _ _ H) ?_
  rintro ⟨ca, cc, rfl, hcc, hccm⟩
  have hbl := blockB_len key 0#32 nonce
  have hol := oneKey_len key nonce
  have hone : (blockB key 0#32 nonce).take 32 = oneKey key nonce := rfl
  refine fn_y Tryz.func205 Tryz.mixed ?_
  intro w0
  refine Y1 ?_
  refine Zh5 rfl ?_; intro b4
  refine Zh5 rfl ?_; intro b5
  refine Zhz (cs := ((List.replicate 16 0#8).map u8b).toArray) rfl ?_; intro b8
  refine Y2 ?_
  refine Zhz (cs := ((List.replicate 32 0#8).map u8b).toArray) rfl ?_; intro b9
  refine Y4 ?_
  refine Zor (c := block_x key 0#32 nonce hk hn) (k := ?_)
  rintro _ _ ⟨rfl, rfl⟩
  refine Y1 ?_
  refine Zhz (cs := ((List.replicate 64 0#8).map u8b).toArray) rfl ?_; intro b10
  first|refine Zhy rfl rfl qR qZ (by first|rfl|exact oneM_u8 _|exact oneL_u8 _|exact pc_one _|(simp [oneC]; done)) qZ ?_|refine Zhx rfl rfl qR qZ (by first|rfl|exact oneM_u8 _|exact oneL_u8 _|exact pc_one _|(simp [oneC]; done)) qZ rfl ?_
  refine V1 ?_
  refine Zij ([]) [] (.q 0 (.q 1 (.e 2 false .nil))) (by kernel_rfl) (by kernel_rfl) (Imp.arr Arr.stop) ?_
  refine Zim rfl (Zmy (h := 32) rfl rfl) ?_
  refine Zim rfl (Zmy (h := 64) rfl rfl) ?_
  refine Ziq rfl ?_
  refine Zib rfl rfl (Rd.cl (o := 0) (xs := (blockB key 0#32 nonce).map u8b) qH (by simp [hbl]) (by simp [hbl]) (by simp; exact List.take_of_length_le (by simp [hbl]))) qR qZ (by first|rfl|exact oneM_u8 _|exact oneL_u8 _|exact pc_one _|(simp [oneC]; done)) (key_cp _ hbl) ?_
  refine Zg3 ⟨(fun hh => Bool.noConfusion hh), ?_⟩
  refine Zik ?_
  refine Ct.o ?_
  rw [hone]
  generalize hone2 : oneKey key nonce = one at hol
  refine Y2 ?_
  refine Zor (c := new_c one hol) (k := ?_)
  rintro _ _ ⟨p, rfl, rfl⟩
  refine Y4 ?_
  refine Zhz (cs := ((List.replicate 16 0#8).map u8b).toArray) rfl ?_; intro b12
  refine Y4 ?_
  refine Zh7 (cs := #[.slice ma more.length mc, .slice ca cover.length cc]) (by omega) (by omega) qF ?_; intro b25
  refine V3 ?_
  refine Zgo [(14, 14), (27, 42)] (by kernel_rfl) (fun i : Nat => i ≤ 2) (fun i => cl p (pc (writeS (newS one) (msgB more cover i))) 320 :: cl b25 #[.slice ma more.length mc, .slice ca cover.length cc] 66 :: cl b12 ((List.replicate 16 0#8).map u8b).toArray 160 :: cl b8 ((List.replicate 16 0#8).map u8b).toArray 266 :: L)
    (fun i => [(27, nvv i)]) (fun i => 2 - i) 0 (by omega) (by show Imp _ (cl p (pc (writeS (newS one) [])) _ :: _); rw [writeS_nil]; exact qI) ⟨rfl, trivial⟩ ?_
  intro i u hi
  have hok : PolyOk (writeS (newS one) (msgB more cover i)) := writeS_ok (newS_ok one)
  refine V3 ?_
  refine Zgg rfl (fun hB => ?_) (fun hB => ?_)
  · obtain ⟨x, hx⟩ : ∃ x, x = if i = 0 then more else cover := ⟨_, rfl⟩
    obtain ⟨xa, xc, hxv, hxb, hxl⟩ : ∃ xa xc, (#[.slice ma more.length mc, .slice ca cover.length cc] : Array Value)[i]? = some (.slice xa x.length xc) ∧ Bs L (.slice xa x.length xc) x ∧ x.length ≤ 140737488351232 := by
      match i, hB with
      | 0, _ => exact ⟨ma, mc, by rw [hx]; rfl, by rw [hx]; exact hm, by rw [hx]; exact hml⟩
      | 1, _ => exact ⟨ca, cc, by rw [hx]; rfl, by rw [hx]; exact hc, by rw [hx]; exact hcl⟩
    have hk16 : (16 - x.length % 16) % 16 ≤ 16 := by omega
    refine Y2 ?_
    refine Zhp rfl qH (hxv) ?_
    refine Y5 ?_
    refine Zor (c := writeB_x (L := L) _ hok hxb) (k := ?_)
    rintro _ _ ⟨rfl, rfl⟩
    refine V2 ?_
    rw [← writeS_append]
    have hok2 : PolyOk (writeS (newS one) (msgB more cover i ++ x)) := writeS_ok (newS_ok one)
    have hz := bs_piece (M := [cl b12 ((List.replicate 16 0#8).map u8b).toArray 160]) (o := 0) (n := (16 - x.length % 16) % 16) (c := 16) .here (by simp; omega) (by omega) (by omega)
    have hpd : ((List.replicate 16 0#8).drop 0).take ((16 - x.length % 16) % 16) = padB x := by
      unfold padB; rw [List.drop_zero, List.take_replicate]; congr 1; omega
    rw [hpd] at hz
    refine Y5 ?_
    first|refine Zhg (Zmb (a := 16) rfl rfl) ?_|refine Zhg (Zbh rfl rfl) ?_
    refine Y1 ?_
    refine Zhg (Zmy (h := (16 - x.length % 16) % 16) rfl rfl (by omega) (by omega)) ?_
    refine Zor (c := writeB_x (L := [cl b12 ((List.replicate 16 0#8).map u8b).toArray 160]) _ hok2 hz) (k := ?_)
    rintro _ _ ⟨rfl, rfl⟩
    refine V2 ?_
    rw [← writeS_append, hx, ← msgB_succ more cover i hB]
    refine V4 ?_
    exact Zgl (i + 1) qO (by omega) qI ⟨rfl, trivial⟩
  · have hie : i = 2 := by omega
    subst hie
    refine Y4 ?_
    refine Zhg (Zlv rfl) ?_
    refine Zor (c := put64_x (L := []) (BitVec.ofNat 64 more.length) Bs.nil (by simp)) (k := ?_)
    rintro _ _ ⟨pa, pcc, rfl, rfl⟩
    refine Y3 ?_
    refine Zhg (Zlv rfl) ?_
    refine Zor (c := put64_x (L := [own 5 1 (.slice pa ([] ++ leB (BitVec.ofNat 64 more.length) 8).length pcc) ([] ++ leB (BitVec.ofNat 64 more.length) 8).length (([] ++ leB (BitVec.ofNat 64 more.length) 8).map u8b)]) (BitVec.ofNat 64 cover.length) (Bs.own .here) (by simp [leB_len])) (k := ?_)
    rintro _ _ ⟨qa, qc, rfl, rfl⟩
    refine Y1 ?_
    refine Zor (c := writeB_x (L := [own 5 1 (.slice qa (([] ++ leB (BitVec.ofNat 64 more.length) 8) ++ leB (BitVec.ofNat 64 cover.length) 8).length qc) (([] ++ leB (BitVec.ofNat 64 more.length) 8) ++ leB (BitVec.ofNat 64 cover.length) 8).length ((([] ++ leB (BitVec.ofNat 64 more.length) 8) ++ leB (BitVec.ofNat 64 cover.length) 8).map u8b)]) _ hok (Bs.own .here)) (k := ?_)
    rintro _ _ ⟨rfl, rfl⟩
    refine V2 ?_
    rw [← writeS_append]
    have hok2 : PolyOk (writeS (newS one) (msgB more cover 2 ++ (([] ++ leB (BitVec.ofNat 64 more.length) 8) ++ leB (BitVec.ofNat 64 cover.length) 8))) := writeS_ok (newS_ok one)
    have hfin : sumS (writeS (newS one) (msgB more cover 2 ++ (([] ++ leB (BitVec.ofNat 64 more.length) 8) ++ leB (BitVec.ofNat 64 cover.length) 8))) = vouchB key nonce more cover := by
      unfold vouchB code macB; rw [hone2, List.nil_append]; rfl
    have hvl := vouchB_len key nonce more cover
    have hfl := congrArg List.length hfin
    refine Y2 ?_
    refine Zor (c := sum_c _ hok2) (k := ?_)
    rintro _ _ ⟨rfl, rfl⟩
    refine Y1 ?_
    first|refine Zhy rfl rfl qR qZ (by first|rfl|exact oneM_u8 _|exact oneL_u8 _|exact pc_one _|(simp [oneC]; done)) qZ ?_|refine Zhx rfl rfl qR qZ (by first|rfl|exact oneM_u8 _|exact oneL_u8 _|exact pc_one _|(simp [oneC]; done)) qZ rfl ?_
    refine V1 ?_
    rw [hfin]
    refine rx1 (Zhe rfl qH qZ (Zg7)) ?_
    exact ⟨_, ⟨rfl, rfl⟩, qI⟩
end Go.Sl
namespace Go.Sl
open Go Go.Proofs
attribute [local irreducible] pt own old pur ex all den denOps denS xOps xC cX CX xthen xblk xcut xloop xng retX resX Calls PV Rd Con
attribute [local irreducible] code blockB ksB xorB vouchB leB
def sealR (key nonce more text : List Byte) : List Byte × Nat := if 1048576 < more.length ∨ 1048576 < text.length then ([], 3) else (sealB key nonce more text, 0)
theorem seal_x {L : List Asrt} (key nonce : List Byte) (hk : key.length = 32) (hn : nonce.length = 12) {vm vt : Value} {more text : List Byte} (hm : Bs L vm more) (ht : Bs L vt text) (hml : more.length ≤ 140737488351232) (htl : text.length ≤ 140737488351232) :
    Con Tryz.prog 201 [.agg (key.map u8b).toArray, .agg (nonce.map u8b).toArray, vm, vt] L (fun r M => ∃ a c, r = .tuple #[.slice a (sealR key nonce more text).1.length c, nvv (sealR key nonce more text).2] ∧ M = own 5 1 (.slice a (sealR key nonce more text).1.length c) (sealR key nonce more text).1.length ((sealR key nonce more text).1.map u8b) :: L) := by
  refine Con.get (fun w0 w F H => hm.sh _ _ _ H) ?_
  rintro ⟨ma, mc, rfl, hmc, hmcm⟩
  refine Con.get (fun w0 w F H => ht.sh _ _ _ H) ?_
  rintro ⟨ta, tc, rfl, htc, htcm⟩
  by_cases hlong : 1048576 < more.length ∨ 1048576 < text.length
  · have e : sealR key nonce more text = ([], 3) := if_pos hlong
    rw [e]
    refine fn_y Tryz.func201 Tryz.mixed ?_
    intro w0
    refine Y1 ?_
    refine Zh5 rfl ?_; intro b4
    refine Zh5 rfl ?_; intro b5
    refine V3 ?_
    by_cases h1 : 1048576 < more.length
    · refine Y4 ?_
      refine Zos 16 rfl (h1) ?_
      refine V11 ?_
      refine rx2 (Zhc rfl (Zg9 rfl (Zg7))) ?_
      exact ⟨_, ⟨none, 0, rfl, rfl⟩, (Imp.arr (N := L) qV).trans Imp.own_nil⟩
    · refine Y4 ?_
      refine Zot 16 rfl (h1) ?_
      refine Y4 ?_
      refine Zos 20 rfl ((hlong.resolve_left h1)) ?_
      refine V7 ?_
      refine rx2 (Zhc rfl (Zg9 rfl (Zg7))) ?_
      exact ⟨_, ⟨none, 0, rfl, rfl⟩, (Imp.arr (N := L) qV).trans Imp.own_nil⟩
  · have e : sealR key nonce more text = (sealB key nonce more text, 0) := if_neg hlong
    rw [e]
    have h1 : ¬ 1048576 < more.length := fun h => hlong (.inl h)
    have h2 : ¬ 1048576 < text.length := fun h => hlong (.inr h)
    have hxl := xorB_len key nonce 64 text
    have hvl := vouchB_len key nonce more (xorB key nonce 64 text)
    refine fn_y Tryz.func201 Tryz.mixed ?_
    intro w0
    refine Y1 ?_
    refine Zh5 rfl ?_; intro b4
    refine Zh5 rfl ?_; intro b5
    refine Y7 ?_
    refine Zot 16 rfl (h1) ?_
    refine Y4 ?_
    refine Zot 20 rfl (h2) ?_
    refine Y7 ?_
    refine Zor (c := xor_x (L := L) key nonce hk hn ht (by omega)) (k := ?_)
    rintro _ _ ⟨g, rfl, rfl⟩
    refine Y10 ?_
    refine Zot 30 rfl ((fun h => h rfl)) ?_
    refine V2 ?_
    have hcv : Bs (cl g ((xorB key nonce 64 text).map u8b).toArray 5 :: L) (.slice (some ⟨g, 0, none⟩) text.length text.length) (xorB key nonce 64 text) := by
      have := Bs.cl (M := cl g ((xorB key nonce 64 text).map u8b).toArray 5 :: L) (o := 0) (c := text.length) (l := xorB key nonce 64 text) .here (by simp) (by simp; exact List.take_of_length_le (by simp)) (by omega) (by omega)
      rwa [hxl] at this
    refine Y5 ?_
    refine Zor (c := vouch_x (L := cl g ((xorB key nonce 64 text).map u8b).toArray 5 :: L) key nonce hk hn (hm.imp Imp.tail) hcv (by omega) (by omega)) (k := ?_)
    rintro _ _ ⟨rfl, rfl⟩
    refine Y1 ?_
    refine Zhz (cs := ((List.replicate 16 0#8).map u8b).toArray) rfl ?_; intro b12
    first|refine Zhy rfl rfl qR qZ qN qZ ?_|refine Zhx rfl rfl qR qZ qN qZ rfl ?_
    refine Y5 ?_
    refine Zm3 (f := u8b) (a := 0#8) (len := 0) rfl rfl rfl qS qS qS ?_; intro b40
    refine V2 ?_
    refine Zgp (Imp.own_mk (n := 0) (cap := text.length + 16) (size := 1) (xs := []) (by omega) (by omega) (by simp) (by simp)) ?_
    have hcr : Rd (cl g ((xorB key nonce 64 text).map u8b).toArray 5 :: L) 1 (.slice (some ⟨g, 0, none⟩) text.length text.length) text.length ((xorB key nonce 64 text).map u8b) := by
      have := hcv.rd; rwa [hxl] at this
    have htr : Rd [cl b12 ((vouchB key nonce more (xorB key nonce 64 text)).map u8b).toArray 266] 1 (.slice (some ⟨b12, 0, none⟩) 16 16) 16 ((vouchB key nonce more (xorB key nonce 64 text)).map u8b) :=
      Rd.cl (o := 0) .here (by simp [hvl]) (by simp [hvl]) (by simp; exact List.take_of_length_le (by simp [hvl]))
    refine Ct.o ?_
    refine Zij ([]) [] (.q 0 (.q 1 (.q 3 (.e 2 false (.e 4 false (.q 5 (.q 6 .nil))))))) (by kernel_rfl) (by kernel_rfl) (Imp.arr Arr.stop) ?_
    refine W2 ?_
    refine Zim rfl (Zmy (h := 16) rfl rfl) ?_
    refine Ziq rfl ?_
    refine Zia rfl rfl qH (hcr.imp (Imp.arr qV)) qN (by omega) qS ?_; intro a1 c1
    refine Zg3 ⟨(fun hh => Bool.noConfusion hh), ?_⟩
    refine Ziq rfl ?_
    refine Zia rfl rfl qH (htr.imp (Imp.arr qV)) qN (by omega) qS ?_; intro a2 c2
    refine Zg3 ⟨(fun hh => Bool.noConfusion hh), ?_⟩
    refine W3 ?_
    refine Ct.o ?_
    have e1 : [] ++ (xorB key nonce 64 text).map u8b ++ (vouchB key nonce more (xorB key nonce 64 text)).map u8b = (sealB key nonce more text).map u8b := by unfold sealB; simp
    have e2 : 0 + text.length + 16 = (sealB key nonce more text).length := by rw [sealB_len]; omega
    rw [e1, e2]
    refine rx2 (Zhc rfl (Zg9 rfl (Zg7))) ?_
    exact ⟨_, ⟨a2, c2, rfl, rfl⟩, qI⟩
end Go.Sl
namespace Go.Sl
open Go Go.Proofs
attribute [local irreducible] pt own old pur ex all den denOps denS xOps xC cX CX xthen xblk xcut xloop xng retX resX Calls PV Rd Con
attribute [local irreducible] code blockB ksB xorB vouchB leB
def lookR (key nonce more box : List Byte) : List Byte × BitVec 64 × Nat :=
  if box.length < 16 then ([], 0#64, 4) else if 1048576 < more.length ∨ 1048576 < box.length - 16 then ([], 0#64, 3)
  else if rightB key nonce more box = true then (textB key nonce box, 18446744073709551615#64, 0) else (List.replicate (box.length - 16) 0#8, 0#64, 0)
theorem look_x {L : List Asrt} (key nonce : List Byte) (hk : key.length = 32) (hn : nonce.length = 12) {vm vb : Value} {more box : List Byte} (hm : Bs L vm more) (hb : Bs L vb box) (hml : more.length ≤ 140737488351232) (hbl : box.length ≤ 140737488351232) :
    Con Tryz.prog 187 [.agg (key.map u8b).toArray, .agg (nonce.map u8b).toArray, vm, vb] L (fun r M => ∃ a c, r = .tuple #[.slice a (lookR key nonce more box).1.length c, u64b (lookR key nonce more box).2.1, nvv (lookR key nonce more box).2.2] ∧ M = own 5 1 (.slice a (lookR key nonce more box).1.length c) (lookR key nonce more box).1.length ((lookR key nonce more box).1.map u8b) :: L) := by
  refine Con.get (fun w0 w F H => hm.sh _ _ _ H) ?_
  rintro ⟨ma, mc, rfl, hmc, hmcm⟩
  refine Con.get (fun w0 w F H => hb.sh _ _ _ H) ?_
  rintro ⟨ba, bc, rfl, hbc, hbcm⟩
  by_cases h16 : box.length < 16
  · have e : lookR key nonce more box = ([], 0#64, 4) := if_pos h16
    rw [e]
    refine fn_y Tryz.func187 Tryz.mixed ?_
    intro w0
    refine Y1 ?_
    refine Zh5 rfl ?_; intro b4
    refine Zh5 rfl ?_; intro b5
    refine V4 ?_
    refine Zno Tryz.mixed ?_
    refine Y3 ?_
    refine Zhg (Zbh (b := 16) rfl rfl (by omega)) ?_
    refine Y4 ?_
    refine Zhg (Zbn (b := 0) rfl rfl) ?_
    refine V1 ?_
    refine Zgg rfl (fun h => ?_) (fun h => absurd h (by omega))
    refine V5 ?_
    refine rx3 (Zhc rfl (Zg9 rfl (Zg9 rfl (Zg7)))) ?_
    exact ⟨_, ⟨none, 0, rfl, rfl⟩, (Imp.arr (N := L) qV).trans Imp.own_nil⟩
  by_cases hlong : 1048576 < more.length ∨ 1048576 < box.length - 16
  · have e : lookR key nonce more box = ([], 0#64, 3) := by unfold lookR; rw [if_neg h16, if_pos hlong]
    rw [e]
    refine fn_y Tryz.func187 Tryz.mixed ?_
    intro w0
    refine Y1 ?_
    refine Zh5 rfl ?_; intro b4
    refine Zh5 rfl ?_; intro b5
    refine V4 ?_
    refine Zno Tryz.mixed ?_
    refine Y9 ?_
    refine Zot 21 rfl (by omega) ?_
    refine V2 ?_
    by_cases h1 : 1048576 < more.length
    · refine Y4 ?_
      refine Zos 24 rfl (h1) ?_
      refine V11 ?_
      refine rx3 (Zhc rfl (Zg9 rfl (Zg9 rfl (Zg7)))) ?_
      exact ⟨_, ⟨none, 0, rfl, rfl⟩, (Imp.arr (N := L) qV).trans Imp.own_nil⟩
    · refine Y4 ?_
      refine Zot 24 rfl (h1) ?_
      refine Y3 ?_
      refine Zos 27 rfl ((hlong.resolve_left h1)) ?_
      refine V8 ?_
      refine rx3 (Zhc rfl (Zg9 rfl (Zg9 rfl (Zg7)))) ?_
      exact ⟨_, ⟨none, 0, rfl, rfl⟩, (Imp.arr (N := L) qV).trans Imp.own_nil⟩
  have h1 : ¬ 1048576 < more.length := fun h => hlong (.inl h)
  have h2 : ¬ 1048576 < box.length - 16 := fun h => hlong (.inr h)
  have hcl : (coverB box).length = box.length - 16 := by simp [coverB]
  have htl : (tagB box).length = 16 := by simp [tagB]; omega
  have hvl := vouchB_len key nonce more (coverB box)
  have hxl := textB_len key nonce box
  refine Con.get (fun w0 w F H => hb.some (by omega) H) ?_
  rintro ⟨b0, o0, rfl⟩
  have hcv : Bs L (.slice (some ⟨b0, o0, none⟩) (box.length - 16) bc) (coverB box) := hb.take (by omega)
  have htg : Bs L (.slice (some ⟨b0, o0 + (box.length - 16), none⟩) (box.length - (box.length - 16)) (bc - (box.length - 16))) (tagB box) := bs_drop hb (by omega) (by omega)
  refine fn_y Tryz.func187 Tryz.mixed ?_
  intro w0
  refine Y1 ?_
  refine Zh5 rfl ?_; intro b4
  refine Zh5 rfl ?_; intro b5
  refine V4 ?_
  refine Zno Tryz.mixed ?_
  refine Y9 ?_
  refine Zot 21 rfl (by omega) ?_
  refine Y6 ?_
  refine Zot 24 rfl (h1) ?_
  refine Y3 ?_
  refine Zot 27 rfl (h2) ?_
  refine V3 ?_
  refine Zij (_) [1, 6, 7] (.q 2 (.q 3 (.q 4 (.q 5 (.r 0 (.r 1 (.e 6 true (.a 7 (.e 8 false .nil))))))))) (by kernel_rfl) (by kernel_rfl) (Imp.refl _) ?_
  refine W3 ?_
  refine Zim rfl (Zm0 (h := box.length - 16) rfl rfl (by omega)) ?_
  refine W2 ?_
  refine Ziq rfl ?_
  refine Zor (c := vouch_x (L := L) key nonce hk hn hm hcv (by omega) (by omega)) (k := ?_)
  rintro _ _ ⟨rfl, rfl⟩
  refine Y1 ?_
  refine Zg3 ⟨fun _ => Imp.arr qV, ?_⟩
  refine Zir rfl (cs := ((List.replicate 16 0#8).map u8b).toArray) rfl ?_; intro b12
  refine Ziq rfl ?_
  first|refine Zhy rfl rfl qR qZ qN qZ ?_|refine Zhx rfl rfl qR qZ qN qZ rfl ?_
  refine Zg3 ⟨(fun hh => Bool.noConfusion hh), ?_⟩
  refine Zik ?_
  refine Ct.o ?_
  have hva := bs_full (M := cl b12 ((vouchB key nonce more (coverB box)).map u8b).toArray 266 :: L) (n := 16) .here hvl (by omega)
  refine Ct.o ?_
  refine Zij ([]) [] (.q 0 (.q 1 (.q 2 (.q 3 (.e 4 false (.q 5 .nil)))))) (by kernel_rfl) (by kernel_rfl) (Imp.arr Arr.stop) ?_
  refine Zim rfl (Zmy (h := 16) rfl rfl) ?_
  refine W2 ?_
  first|refine Zim rfl (Zna (l := box.length - 16) (h := box.length) rfl qB qB) ?_|refine Zim rfl (Zmz (l := box.length - 16) (h := box.length) rfl qB qB) ?_
  refine Ziq rfl ?_
  refine Zor (c := same_x (L := cl b12 ((vouchB key nonce more (coverB box)).map u8b).toArray 266 :: L) hva (htg.imp Imp.tail) (by omega)) (k := ?_)
  rintro _ _ ⟨rfl, rfl⟩
  refine Y1 ?_
  refine Zg3 ⟨(fun hh => Bool.noConfusion hh), ?_⟩
  refine W2 ?_
  refine Ct.o ?_
  refine Zij (_) [1] (.q 2 (.q 3 (.q 4 (.r 0 (.r 1 (.e 5 false (.q 6 (.q 7 (.q 8 (.q 9 (.q 10 .nil))))))))))) (by kernel_rfl) (by kernel_rfl) (Imp.refl _) ?_
  refine W2 ?_
  refine Zim rfl (Zm0 (h := box.length - 16) rfl rfl (by omega)) ?_
  refine W2 ?_
  refine Ziq rfl ?_
  refine Zor (c := xor_x (L := L) key nonce hk hn hcv (by omega)) (k := ?_)
  rintro _ _ ⟨g, rfl, rfl⟩
  refine Y1 ?_
  refine Zg3 ⟨(fun hh => Bool.noConfusion hh), ?_⟩
  refine W6 ?_
  refine Ct.o ?_
  rw [show xorB key nonce 64 (coverB box) = textB key nonce box from rfl, hcl]
  refine Y3 ?_
  refine Zot 51 rfl ((fun h => h rfl)) ?_
  refine V2 ?_
  by_cases hr : vouchB key nonce more (coverB box) = tagB box
  · have e : lookR key nonce more box = (textB key nonce box, 18446744073709551615#64, 0) := by unfold lookR; rw [if_neg h16, if_neg hlong, if_pos (show rightB key nonce more box = true from decide_eq_true hr)]
    rw [e, if_pos hr]
    refine Y2 ?_
    refine Zhg (Zlo (y := 0#64) rfl rfl) ?_
    refine Zos 53 rfl ((by decide)) ?_
    refine V9 ?_
    refine rx3 (Zhc rfl (Zg9 rfl (Zg9 rfl (Zg7)))) ?_
    refine ⟨_, ⟨some ⟨g, 0, none⟩, box.length - 16, by dsimp only; rw [hxl]; rfl, rfl⟩, ?_⟩
    dsimp only
    rw [hxl]
    exact (Imp.arr (N := cl g ((textB key nonce box).map u8b).toArray 5 :: L) qV).trans (Imp.own_mk (by omega) (by omega) (by simp [hxl]) (by simp; exact List.take_of_length_le (by simp [hxl])))
  · have e : lookR key nonce more box = (List.replicate (box.length - 16) 0#8, 0#64, 0) := by unfold lookR; rw [if_neg h16, if_neg hlong, if_neg (show ¬ rightB key nonce more box = true from fun h => hr (of_decide_eq_true h))]
    rw [e, if_neg hr]
    refine Y2 ?_
    refine Zhg (Zlo (y := 0#64) rfl rfl) ?_
    refine Zot 53 rfl ((fun h => h rfl)) ?_
    refine V7 ?_
    refine Zgo [(16, 16), (58, 64)] (by kernel_rfl) (fun i : Nat => i ≤ box.length - 16) (fun i => cl g ((List.replicate i 0#8 ++ (textB key nonce box).drop i).map u8b).toArray 5 :: L) (fun i => [(58, nvv i)]) (fun i => box.length - 16 - i) 0 (by omega) (by show Imp _ (cl g (([] ++ textB key nonce box).map u8b).toArray _ :: L); rw [List.nil_append]; exact qI) ⟨rfl, trivial⟩ ?_
    intro i u hi
    have hzl : (List.replicate i 0#8 ++ (textB key nonce box).drop i).length = box.length - 16 := by simp [hxl]; omega
    refine V3 ?_
    refine Zgg rfl (fun hB => ?_) (fun hB => ?_)
    · refine Y8 ?_
      refine Zhs rfl (v := u8b 0#8) rfl rfl qR qZ (setL (f := u8b)) ?_
      refine V1 ?_
      have e2 : (List.replicate i 0#8 ++ (textB key nonce box).drop i).set i 0#8 = List.replicate (i + 1) 0#8 ++ (textB key nonce box).drop (i + 1) := by
        rw [List.set_append_right _ _ (by simp), List.length_replicate, Nat.sub_self, List.drop_eq_getElem_cons (by omega), List.set_cons_zero, List.replicate_succ', List.append_assoc]; rfl
      rw [e2]
      refine V4 ?_
      exact Zgl (i + 1) qO (by omega) qI ⟨rfl, trivial⟩
    · have hie : i = box.length - 16 := by omega
      subst hie
      rw [List.drop_of_length_le (by omega), List.append_nil]
      refine V7 ?_
      refine rx3 (Zhc rfl (Zg9 rfl (Zg9 rfl (Zg7)))) ?_
      refine ⟨_, ⟨some ⟨g, 0, none⟩, box.length - 16, by dsimp only; rw [List.length_replicate]; rfl, rfl⟩, ?_⟩
      dsimp only
      rw [List.length_replicate]
      exact (Imp.arr (N := cl g ((List.replicate (box.length - 16) 0#8).map u8b).toArray 5 :: L) qV).trans (Imp.own_mk (by omega) (by omega) (by simp) (by simp))
def openR (key nonce more box : List Byte) : List Byte × Nat :=
  if box.length < 16 then ([], 4) else if 1048576 < more.length ∨ 1048576 < box.length - 16 then ([], 3)
  else if rightB key nonce more box = true then (textB key nonce box, 0) else ([], 70)
theorem open_x {L : List Asrt} (key nonce : List Byte) (hk : key.length = 32) (hn : nonce.length = 12) {vm vb : Value} {more box : List Byte} (hm : Bs L vm more) (hb : Bs L vb box) (hml : more.length ≤ 140737488351232) (hbl : box.length ≤ 140737488351232) :
    Con Tryz.prog 152 [.agg (key.map u8b).toArray, .agg (nonce.map u8b).toArray, vm, vb] L (fun r M => ∃ a c, r = .tuple #[.slice a (openR key nonce more box).1.length c, nvv (openR key nonce more box).2] ∧ M = own 5 1 (.slice a (openR key nonce more box).1.length c) (openR key nonce more box).1.length ((openR key nonce more box).1.map u8b) :: L) := by
  refine Con.get (fun w0 w F H => hm.sh _ _ _ H) ?_
  rintro ⟨ma, mc, rfl, hmc, hmcm⟩
  refine Con.get (fun w0 w F H => hb.sh _ _ _ H) ?_
  rintro ⟨ba, bc, rfl, hbc, hbcm⟩
  refine fn_y Tryz.func152 Tryz.mixed ?_
  intro w0
  refine Y1 ?_
  refine Zh5 rfl ?_; intro b4
  refine Zh5 rfl ?_; intro b5
  refine Y8 ?_
  refine Zor (c := look_x (L := L) key nonce hk hn hm hb hml hbl) (k := ?_)
  rintro _ _ ⟨xa, xc, rfl, rfl⟩
  refine V9 ?_
  have drop0 : ∀ N, Imp (own 5 1 (.slice xa (lookR key nonce more box).1.length xc) (lookR key nonce more box).1.length ((lookR key nonce more box).1.map u8b) :: N) (own 5 1 (.slice none 0 0) 0 [] :: N) := fun N => Imp.tail.trans Imp.own_nil
  unfold lookR openR
  by_cases h16 : box.length < 16
  · simp only [if_pos h16]
    refine Y3 ?_
    refine Zos 23 rfl (by decide) ?_
    refine V7 ?_
    refine rx2 (Zhc rfl (Zg9 rfl (Zg7))) ?_
    exact ⟨_, ⟨none, 0, rfl, rfl⟩, (Imp.arr (N := L) qV).trans Imp.own_nil⟩
  · simp only [if_neg h16]
    by_cases hlong : 1048576 < more.length ∨ 1048576 < box.length - 16
    · simp only [if_pos hlong]
      refine Y3 ?_
      refine Zos 23 rfl (by decide) ?_
      refine V7 ?_
      refine rx2 (Zhc rfl (Zg9 rfl (Zg7))) ?_
      exact ⟨_, ⟨none, 0, rfl, rfl⟩, (Imp.arr (N := L) qV).trans Imp.own_nil⟩
    · simp only [if_neg hlong]
      by_cases hr : rightB key nonce more box = true
      · simp only [if_pos hr]
        refine Y3 ?_
        refine Zot 23 rfl (by decide) ?_
        refine Y4 ?_
        refine Zhg (Zln (y := 0#64) rfl rfl) ?_
        refine Zot 26 rfl (by decide) ?_
        refine V7 ?_
        refine rx2 (Zhc rfl (Zg9 rfl (Zg7))) ?_
        exact ⟨_, ⟨xa, xc, rfl, rfl⟩, qI⟩
      · simp only [if_neg hr]
        refine Y3 ?_
        refine Zot 23 rfl (by decide) ?_
        refine Y4 ?_
        refine Zhg (Zln (y := 0#64) rfl rfl) ?_
        refine Zos 26 rfl (by decide) ?_
        refine V6 ?_
        refine rx2 (Zhc rfl (Zg9 rfl (Zg7))) ?_
        exact ⟨_, ⟨none, 0, rfl, rfl⟩, (Imp.arr (N := L) qV).trans Imp.own_nil⟩
end Go.Sl
namespace Go.Sl
open Go Go.Proofs
attribute [local irreducible] pt own old pur ex all den denOps denS xOps xC cX CX xthen xblk xcut xloop xng retX resX Calls PV Rd Con
attribute [local irreducible] code blockB ksB xorB vouchB leB headB moreB sealB rightB textB
theorem pgSeal_x {L : List Asrt} (key : List Byte) (hk : key.length = 32) (p : Plc) {vt : Value} {text : List Byte} (ht : Bs L vt text) (htl : text.length ≤ 140737488351232) :
    Con Tryz.prog 180 [.agg (key.map u8b).toArray, .agg (plc p), vt] L (fun r M => ∃ a c, r = .tuple #[.slice a (pgSealR key p text).1.length c, nvv (pgSealR key p text).2] ∧ M = own 5 1 (.slice a (pgSealR key p text).1.length c) (pgSealR key p text).1.length ((pgSealR key p text).1.map u8b) :: L) := by
  refine Con.get (fun w0 w F H => ht.sh _ _ _ H) ?_
  rintro ⟨ta, tc, rfl, htc, htcm⟩
  by_cases hlong : 4096 < text.length
  · have e : pgSealR key p text = ([], 3) := if_pos hlong
    rw [e]
    refine fn_y Tryz.func180 Tryz.mixed ?_
    intro w0
    refine Y1 ?_
    refine Zh5 rfl ?_; intro b3
    refine Zh5 rfl ?_; intro b4
    refine Y7 ?_
    refine Zos 14 rfl (hlong) ?_
    refine V6 ?_
    refine rx2 (Zhc rfl (Zg9 rfl (Zg7))) ?_
    exact ⟨_, ⟨none, 0, rfl, rfl⟩, (Imp.arr (N := L) qV).trans Imp.own_nil⟩
  · have e : pgSealR key p text = (pgSealB key p text, 0) := if_neg hlong
    rw [e]
    have hml := moreB_len p
    have hhl := headB_len p
    have hsl := sealB_len key (headB p) (moreB p) text
    have esr : sealR key (headB p) (moreB p) text = (sealB key (headB p) (moreB p) text, 0) := if_neg (by omega)
    have hs := fun ma mc => seal_x (L := own 5 1 (.slice ma (moreB p).length mc) (moreB p).length ((moreB p).map u8b) :: L) key (headB p) hk hhl (Bs.own .here) (ht.imp Imp.tail) (by omega) (by omega)
    rw [esr] at hs
    dsimp only at hs
    refine fn_y Tryz.func180 Tryz.mixed ?_
    intro w0
    refine Y1 ?_
    refine Zh5 rfl ?_; intro b3
    refine Zh5 rfl ?_; intro b4
    refine Y7 ?_
    refine Zot 14 rfl (hlong) ?_
    refine Y4 ?_
    refine Zor (c := pghead_x p) (k := ?_)
    rintro _ _ ⟨rfl, rfl⟩
    refine Y1 ?_
    refine Zhz (cs := ((List.replicate 12 0#8).map u8b).toArray) rfl ?_; intro b8
    first|refine Zhy rfl rfl qR qZ qN qZ ?_|refine Zhx rfl rfl qR qZ qN qZ rfl ?_
    refine V1 ?_
    refine Zij ([cl b3 (key.map u8b).toArray 42, cl b8 ((headB p).map u8b).toArray 156, cl b4 (plc p) 189]) [1, 2, 3] (.q 4 (.r 0 (.r 1 (.r 2 (.e 3 true (.e 5 false (.q 6 (.q 7 (.q 8 (.q 9 (.q 10 .nil))))))))))) (by kernel_rfl) (by kernel_rfl) (Imp.arr qV) ?_
    refine W4 ?_
    refine Ziq rfl ?_
    refine Zor (c := pgmore_x p) (k := ?_)
    rintro _ _ ⟨ma, mc, rfl, rfl⟩
    refine Y1 ?_
    refine Zg3 ⟨fun _ => Imp.arr qV, ?_⟩
    refine Ziq rfl ?_
    refine Zor (c := hs ma mc) (k := ?_)
    rintro _ _ ⟨sa, sc, rfl, rfl⟩
    refine Y1 ?_
    refine Zg3 ⟨(fun hh => Bool.noConfusion hh), ?_⟩
    refine W6 ?_
    refine Y3 ?_
    refine Zot 27 rfl ((fun h => h rfl)) ?_
    refine Y5 ?_
    first|refine Zhg (Zma (a := 12) rfl rfl) ?_|refine Zhg (Zbg rfl rfl) ?_
    refine Zm3 (f := u8b) (a := 0#8) (len := 0) rfl rfl rfl qS qS qS ?_; intro b32
    refine V2 ?_
    refine Zgp (Imp.own_mk (n := 0) (cap := 12 + (sealB key (headB p) (moreB p) text).length) (size := 1) (xs := []) (by omega) (by omega) (by simp) (by simp)) ?_
    have hhr : Rd [cl b8 ((headB p).map u8b).toArray 156] 1 (.slice (some ⟨b8, 0, none⟩) 12 12) 12 ((headB p).map u8b) :=
      Rd.cl (o := 0) .here (by simp [hhl]) (by simp [hhl]) (by simp; exact List.take_of_length_le (by simp [hhl]))
    have hsr : Rd [own 5 1 (.slice sa (sealB key (headB p) (moreB p) text).length sc) (sealB key (headB p) (moreB p) text).length ((sealB key (headB p) (moreB p) text).map u8b)] 1 (.slice sa (sealB key (headB p) (moreB p) text).length sc) (sealB key (headB p) (moreB p) text).length ((sealB key (headB p) (moreB p) text).map u8b) := Rd.own .here
    refine Y2 ?_
    refine Zhg (Zmy (h := 12) rfl rfl) ?_
    refine Zia rfl rfl qH (hhr.imp (Imp.arr qV)) qN (by omega) qS ?_; intro a1 c1
    refine Y1 ?_
    refine Zia rfl rfl qH (hsr.imp (Imp.arr qV)) qN (by omega) qS ?_; intro a2 c2
    refine V3 ?_
    have e1 : [] ++ (headB p).map u8b ++ (sealB key (headB p) (moreB p) text).map u8b = (pgSealB key p text).map u8b := by unfold pgSealB; simp
    have e2 : 0 + 12 + (sealB key (headB p) (moreB p) text).length = (pgSealB key p text).length := by rw [pgSealB_len]; omega
    rw [e1, e2]
    refine rx2 (Zhc rfl (Zg9 rfl (Zg7))) ?_
    exact ⟨_, ⟨a2, c2, rfl, rfl⟩, qI⟩
theorem pgOpen_x {L : List Asrt} (key : List Byte) (hk : key.length = 32) (p : Plc) {vb : Value} {box : List Byte} (hb : Bs L vb box) (hbl : box.length ≤ 140737488351232) :
    Con Tryz.prog 118 [.agg (key.map u8b).toArray, .agg (plc p), vb] L (fun r M => ∃ a c, r = .tuple #[.slice a (pgOpenR key p box).1.length c, nvv (pgOpenR key p box).2] ∧ M = own 5 1 (.slice a (pgOpenR key p box).1.length c) (pgOpenR key p box).1.length ((pgOpenR key p box).1.map u8b) :: L) := by
  refine Con.get (fun w0 w F H => hb.sh _ _ _ H) ?_
  rintro ⟨ba, bc, rfl, hbc, hbcm⟩
  have eno : ¬ pgFits p box → pgOpenR key p box = ([], 120) := fun h => if_neg (fun h2 => h h2.1)
  by_cases hlong : 4124 < box.length
  · rw [eno (fun h => by have := h.2.1; omega)]
    refine fn_y Tryz.func118 Tryz.mixed ?_
    intro w0
    refine Y1 ?_
    refine Zh5 rfl ?_; intro b3
    refine Zh5 rfl ?_; intro b4
    refine Y7 ?_
    refine Zos 14 rfl (hlong) ?_
    refine V6 ?_
    refine rx2 (Zhc rfl (Zg9 rfl (Zg7))) ?_
    exact ⟨_, ⟨none, 0, rfl, rfl⟩, (Imp.arr (N := L) qV).trans Imp.own_nil⟩
  by_cases h28 : box.length < 28
  · rw [eno (fun h => by have := h.1; omega)]
    have hh := pgHead_x hb hbl
    rw [show pgHeadR box = (0#64, 0#32, 20) from if_pos h28] at hh
    dsimp only at hh
    refine fn_y Tryz.func118 Tryz.mixed ?_
    intro w0
    refine Y1 ?_
    refine Zh5 rfl ?_; intro b3
    refine Zh5 rfl ?_; intro b4
    refine Y7 ?_
    refine Zot 14 rfl (hlong) ?_
    refine Y4 ?_
    refine Zor (c := hh) (k := ?_)
    rintro _ _ ⟨rfl, rfl⟩
    refine Y12 ?_
    refine Zos 22 rfl ((by decide)) ?_
    refine Y8 ?_
    first|refine Y0 ?_|(refine Zhh rfl ?_; (refine Zhg (Zdm (cs := #[.int .u64 _, .int .u32 _, .int .u32 _, .int .u32 _]) rfl) ?_))
    first|refine Y0 ?_|(refine Zhh rfl ?_; (refine Zhg (pv_neq_UNKNOWN_struct) ?_))
    refine V7 ?_
    refine rx2 (Zhc rfl (Zg9 rfl (Zg7))) ?_
    exact ⟨_, ⟨none, 0, rfl, rfl⟩, (Imp.arr (N := L) qV).trans Imp.own_nil⟩
  have hh := pgHead_x hb hbl
  rw [show pgHeadR box = (lowB 64 (box.take 8), lowB 32 ((box.drop 8).take 4), 0) from if_neg h28] at hh
  dsimp only at hh
  have hhi := head_is p box (by omega)
  generalize lowB 64 (box.take 8) = hr at hh hhi
  generalize lowB 32 ((box.drop 8).take 4) = hc at hh hhi
  by_cases hpl : p = ⟨hr, hc, p.page, p.version⟩
  · have hfit : pgFits p box := ⟨by omega, by omega, hhi.2 (by rw [hpl]; exact ⟨rfl, rfl⟩)⟩
    refine Con.get (fun w0 w F H => hb.some (by omega) H) ?_
    rintro ⟨b0, o0, rfl⟩
    have hml := moreB_len p
    have hdl : (box.drop 12).length = box.length - 12 := List.length_drop
    have hdb : Bs L (.slice (some ⟨b0, o0 + 12, none⟩) (box.length - 12) (bc - 12)) (box.drop 12) := bs_drop hb (by omega) (by omega)
    have ho := fun ma mc => open_x (L := own 5 1 (.slice ma (moreB p).length mc) (moreB p).length ((moreB p).map u8b) :: L) key (headB p) hk (headB_len p) (Bs.own .here) (hdb.imp Imp.tail) (by omega) (by omega)
    by_cases hr2 : rightB key (headB p) (moreB p) (box.drop 12) = true
    · have e : pgOpenR key p box = (textB key (headB p) (box.drop 12), 0) := if_pos ⟨hfit, hr2⟩
      have eo : openR key (headB p) (moreB p) (box.drop 12) = (textB key (headB p) (box.drop 12), 0) := by unfold openR; rw [if_neg (by omega), if_neg (by omega), if_pos hr2]
      rw [e]
      rw [eo] at ho
      dsimp only at ho
      refine fn_y Tryz.func118 Tryz.mixed ?_
      intro w0
      refine Y1 ?_
      refine Zh5 rfl ?_; intro b3
      refine Zh5 rfl ?_; intro b4
      refine Y7 ?_
      refine Zot 14 rfl (hlong) ?_
      refine Y4 ?_
      refine Zor (c := hh) (k := ?_)
      rintro _ _ ⟨rfl, rfl⟩
      refine Y12 ?_
      refine Zot 22 rfl ((fun h => h rfl)) ?_
      refine Y8 ?_
      first|refine Y0 ?_|(refine Zhh rfl ?_; (refine Zhg (Zdm (cs := #[.int .u64 _, .int .u32 _, .int .u32 _, .int .u32 _]) rfl) ?_))
      first|refine Y0 ?_|(refine Zhh rfl ?_; (refine Zhg (pv_neq_plc p ⟨hr, hc, p.page, p.version⟩ rfl rfl) ?_))
      refine Zot 32 rfl ((fun h => h hpl)) ?_
      refine V3 ?_
      refine Zij ([cl b3 (key.map u8b).toArray 42, cl b4 (plc p) 189]) [1, 2, 3, 4] (.q 5 (.q 6 (.r 0 (.r 1 (.r 3 (.e 2 true (.e 4 true (.e 7 false (.q 8 (.q 9 (.q 10 (.q 11 (.q 12 .nil))))))))))))) (by kernel_rfl) (by kernel_rfl) (Imp.arr qV) ?_
      refine W1 ?_
      first|refine Zim rfl (Zna (l := 12) (h := box.length) rfl qB qB) ?_|refine Zim rfl (Zmz (l := 12) (h := box.length) rfl qB qB) ?_
      refine W3 ?_
      refine Ziq rfl ?_
      refine Zor (c := pghead_x p) (k := ?_)
      rintro _ _ ⟨rfl, rfl⟩
      refine Y1 ?_
      refine Zg3 ⟨fun _ => Imp.arr qV, ?_⟩
      refine Ziq rfl ?_
      refine Zor (c := pgmore_x p) (k := ?_)
      rintro _ _ ⟨ma, mc, rfl, rfl⟩
      refine Y1 ?_
      refine Zg3 ⟨fun _ => Imp.arr qV, ?_⟩
      refine Ziq rfl ?_
      refine Zor (c := ho ma mc) (k := ?_)
      rintro _ _ ⟨xa, xc, rfl, rfl⟩
      refine Y1 ?_
      refine Zg3 ⟨(fun hh => Bool.noConfusion hh), ?_⟩
      refine W6 ?_
      refine Y3 ?_
      refine Zor (c := fails_x 0) (k := ?_)
      rintro _ _ ⟨rfl, rfl⟩
      refine V8 ?_
      refine rx2 (Zhc rfl (Zg9 rfl (Zg7))) ?_
      exact ⟨_, ⟨xa, xc, rfl, rfl⟩, qI⟩
    · have e : pgOpenR key p box = ([], 120) := if_neg (fun h => hr2 h.2)
      have eo : openR key (headB p) (moreB p) (box.drop 12) = ([], 70) := by unfold openR; rw [if_neg (by omega), if_neg (by omega), if_neg hr2]
      rw [e]
      rw [eo] at ho
      dsimp only at ho
      refine fn_y Tryz.func118 Tryz.mixed ?_
      intro w0
      refine Y1 ?_
      refine Zh5 rfl ?_; intro b3
      refine Zh5 rfl ?_; intro b4
      refine Y7 ?_
      refine Zot 14 rfl (hlong) ?_
      refine Y4 ?_
      refine Zor (c := hh) (k := ?_)
      rintro _ _ ⟨rfl, rfl⟩
      refine Y12 ?_
      refine Zot 22 rfl ((fun h => h rfl)) ?_
      refine Y8 ?_
      first|refine Y0 ?_|(refine Zhh rfl ?_; (refine Zhg (Zdm (cs := #[.int .u64 _, .int .u32 _, .int .u32 _, .int .u32 _]) rfl) ?_))
      first|refine Y0 ?_|(refine Zhh rfl ?_; (refine Zhg (pv_neq_plc p ⟨hr, hc, p.page, p.version⟩ rfl rfl) ?_))
      refine Zot 32 rfl ((fun h => h hpl)) ?_
      refine V3 ?_
      refine Zij ([cl b3 (key.map u8b).toArray 42, cl b4 (plc p) 189]) [1, 2, 3, 4] (.q 5 (.q 6 (.r 0 (.r 1 (.r 3 (.e 2 true (.e 4 true (.e 7 false (.q 8 (.q 9 (.q 10 (.q 11 (.q 12 .nil))))))))))))) (by kernel_rfl) (by kernel_rfl) (Imp.arr qV) ?_
      refine W1 ?_
      first|refine Zim rfl (Zna (l := 12) (h := box.length) rfl qB qB) ?_|refine Zim rfl (Zmz (l := 12) (h := box.length) rfl qB qB) ?_
      refine W3 ?_
      refine Ziq rfl ?_
      refine Zor (c := pghead_x p) (k := ?_)
      rintro _ _ ⟨rfl, rfl⟩
      refine Y1 ?_
      refine Zg3 ⟨fun _ => Imp.arr qV, ?_⟩
      refine Ziq rfl ?_
      refine Zor (c := pgmore_x p) (k := ?_)
      rintro _ _ ⟨ma, mc, rfl, rfl⟩
      refine Y1 ?_
      refine Zg3 ⟨fun _ => Imp.arr qV, ?_⟩
      refine Ziq rfl ?_
      refine Zor (c := ho ma mc) (k := ?_)
      rintro _ _ ⟨xa, xc, rfl, rfl⟩
      refine Y1 ?_
      refine Zg3 ⟨(fun hh => Bool.noConfusion hh), ?_⟩
      refine W6 ?_
      refine Y3 ?_
      refine Zor (c := fails_x 70) (k := ?_)
      rintro _ _ ⟨rfl, rfl⟩
      refine V7 ?_
      refine rx2 (Zhc rfl (Zg9 rfl (Zg7))) ?_
      exact ⟨_, ⟨none, 0, rfl, rfl⟩, (Imp.arr (N := L) qV).trans Imp.own_nil⟩
  · rw [eno (fun h => hpl (by
      obtain ⟨h1, h2⟩ := hhi.1 h.2.2
      rw [h1, h2]))]
    refine fn_y Tryz.func118 Tryz.mixed ?_
    intro w0
    refine Y1 ?_
    refine Zh5 rfl ?_; intro b3
    refine Zh5 rfl ?_; intro b4
    refine Y7 ?_
    refine Zot 14 rfl (hlong) ?_
    refine Y4 ?_
    refine Zor (c := hh) (k := ?_)
    rintro _ _ ⟨rfl, rfl⟩
    refine Y12 ?_
    refine Zot 22 rfl ((fun h => h rfl)) ?_
    refine Y8 ?_
    first|refine Y0 ?_|(refine Zhh rfl ?_; (refine Zhg (Zdm (cs := #[.int .u64 _, .int .u32 _, .int .u32 _, .int .u32 _]) rfl) ?_))
    first|refine Y0 ?_|(refine Zhh rfl ?_; (refine Zhg (pv_neq_plc p ⟨hr, hc, p.page, p.version⟩ rfl rfl) ?_))
    refine Zos 32 rfl (hpl) ?_
    refine V7 ?_
    refine rx2 (Zhc rfl (Zg9 rfl (Zg7))) ?_
    exact ⟨_, ⟨none, 0, rfl, rfl⟩, (Imp.arr (N := L) qV).trans Imp.own_nil⟩
end Go.Sl
namespace Go.Sl
open Go Go.Proofs
attribute [local irreducible] pt own old pur ex all den denOps denS xOps xC cX CX xthen xblk xcut xloop xng retX resX Calls PV Rd Con
attribute [local irreducible] hostA pcl pgSealB pgOpenR HostS.writeR HostS.readR
open PagerS (PS Over)
abbrev pgL (p : Nat) (s : PS) (c : PC) (l : List FV) : List Asrt := [cl p (pcl s c) 147, fmA c.bh (heldF l), fmA c.bl (lastF s.last), ownI c.oa c.oc (fpages l), star frA l]
structure PgOk (ph : Nat) (s : PS) (c : PC) (l : List FV) : Prop where
  ok : PagerS.Ok s
  ph : c.ph = ph
  held : s.held = l.map (·.1)
  n : c.n = (fpages l).length
def pgB (p ph : Nat) (s : PS) (t : PC × List FV) : Asrt := all (pur (PgOk ph s t.1 t.2) :: pgL p s t.1 t.2)
def pgA (p ph : Nat) (s : PS) : Asrt := ex (pgB p ph s)
section
variable {p ph : Nat} {s : PS} {L : List Asrt}
theorem pgA_mk {c : PC} {l : List FV} (h : PgOk ph s c l) : Imp (pgL p s c l ++ L) (pgA p ph s :: L) :=
  ((Imp.pur_mk h).trans (Imp.app (L := pur (PgOk ph s c l) :: pgL p s c l))).trans (Imp.head fun f h => by unfold pgA Sl.ex; exact Exists.intro (p := fun x => (pgB p ph s x).on f) (c, l) h)
theorem Con.pgA {F : FuncId} {args : List Value} {Φ : Value → List Asrt → Prop} (h : ∀ (c : PC) (l : List FV), PgOk ph s c l → Con Tryz.prog F args (pgL p s c l ++ L) Φ) : Con Tryz.prog F args (Sl.pgA p ph s :: L) Φ :=
  Con.ex fun t => Con.pre (Con.pur fun hk => h t.1 t.2 hk) (Imp.unapp (L := Sl.pur (PgOk ph s t.1 t.2) :: pgL p s t.1 t.2))
theorem x_pgA {w0 : World} {c : Code} {ρ : Env} {Q : XQ} (h : ∀ (t : PC) (l : List FV), PgOk ph s t l → xC Tryz.prog w0 c ρ (pgL p s t l ++ L) Q) : xC Tryz.prog w0 c ρ (pgA p ph s :: L) Q := by
  unfold pgA
  exact Zgr fun t => Zgs (L := pur (PgOk ph s t.1 t.2) :: pgL p s t.1 t.2) (Zgq fun hk => h t.1 t.2 hk)
end
theorem met_write (ph : Nat) : Met Tryz.prog 32 (hp ph) "Write" 294 (hp ph) := by intro w; kernel_rfl
theorem met_read (ph : Nat) : Met Tryz.prog 32 (hp ph) "Read" 292 (hp ph) := by intro w; kernel_rfl
theorem find_at {l : List FV} (hn : (fpages l).Nodup) {i : Nat} (hi : i < l.length) : (l.find? fun e => e.1.page == l[i].1.page) = some l[i] := by
  induction l generalizing i with
  | nil => simp at hi
  | cons x r ih =>
    rw [fpages, List.map_cons, List.nodup_cons] at hn
    cases i with
    | zero => simp
    | succ i =>
      have hi : i < r.length := by simpa using hi
      simp only [List.getElem_cons_succ]
      rw [List.find?_cons_of_neg (by
        simp only [beq_iff_eq]
        intro e
        exact hn.1 (e ▸ List.mem_map.2 ⟨r[i], List.getElem_mem hi, rfl⟩))]
      exact ih hn.2 hi
theorem heldF_at {l : List FV} (hn : (fpages l).Nodup) {i : Nat} (hi : i < l.length) : heldF l l[i].1.page = some (hp l[i].2.1) := by unfold heldF; rw [find_at hn hi]; rfl
theorem heldF_no {l : List FV} {n : Int} (h : n ∉ fpages l) : heldF l n = none := by
  unfold heldF
  rw [Option.map_eq_none_iff, List.find?_eq_none]
  intro e he
  simp only [beq_iff_eq]
  exact fun hh => h (hh ▸ List.mem_map.2 ⟨e, he, rfl⟩)
section
variable {ph : Nat} {s : PS} {c : PC} {l : List FV}
theorem PgOk.nodup (h : PgOk ph s c l) : (fpages l).Nodup := by
  have := h.ok.once
  unfold PagerS.numbers at this
  rw [h.held, List.map_map] at this
  exact this
theorem PgOk.fr (h : PgOk ph s c l) {i : Nat} (hi : i < l.length) : PagerS.frOf s l[i].1.page = some l[i].1 := by
  unfold PagerS.frOf
  rw [h.held, List.find?_map]
  have := find_at h.nodup hi
  simp only [Function.comp_def]
  rw [this]; rfl
theorem PgOk.none (h : PgOk ph s c l) {n : Int} (hn : n ∉ fpages l) : PagerS.frOf s n = none := by
  unfold PagerS.frOf
  rw [h.held, List.find?_eq_none]
  intro f hf
  obtain ⟨e, he, rfl⟩ := List.mem_map.1 hf
  simp only [beq_iff_eq]
  exact fun hh => hn (hh ▸ List.mem_map.2 ⟨e, he, rfl⟩)
theorem PgOk.len (h : PgOk ph s c l) : l.length ≤ 16 := by
  have := h.ok.many; have := h.ok.w1
  rw [h.held, List.length_map] at *
  omega
def wash (l : List FV) (i : Nat) (hi : i < l.length) : List FV := l.set i ({ l[i].1 with is := 1 }, l[i].2)
theorem wash_len {i : Nat} (hi : i < l.length) : (wash l i hi).length = l.length := by unfold wash; simp
theorem wash_at {i j : Nat} (hi : i < l.length) (hj : j < l.length) : (wash l i hi)[j]'(by rw [wash_len]; exact hj) = if i = j then ({ l[i].1 with is := 1 }, l[i].2) else l[j] := by
  unfold wash; rw [List.getElem_set]
theorem wash_pages {i : Nat} (hi : i < l.length) : fpages (wash l i hi) = fpages l := by
  apply List.ext_getElem (by simp [fpages, wash_len])
  intro j h1 h2
  have hj : j < l.length := by simpa [fpages] using h2
  simp only [fpages, List.getElem_map]
  rw [wash_at hi hj]
  split
  · rename_i e; subst e; rfl
  · rfl
theorem page_inj (hn : (fpages l).Nodup) {i j : Nat} (hi : i < l.length) (hj : j < l.length) (e : l[i].1.page = l[j].1.page) : i = j := by
  have h := List.pairwise_iff_getElem.1 hn
  have hi' : i < (fpages l).length := by simpa [fpages] using hi
  have hj' : j < (fpages l).length := by simpa [fpages] using hj
  have e' : (fpages l)[i] = (fpages l)[j] := by simp only [fpages, List.getElem_map]; exact e
  rcases Nat.lt_trichotomy i j with hlt|hlt|hlt
  · exact absurd e' (h i j hi' hj' hlt)
  · exact hlt
  · exact absurd e'.symm (h j i hj' hi' hlt)
theorem wash_held (h : PgOk ph s c l) {i : Nat} (hi : i < l.length) : PagerS.cleaned s.held l[i].1.page = (wash l i hi).map (·.1) := by
  rw [h.held]
  unfold PagerS.cleaned
  rw [List.map_map]
  apply List.ext_getElem (by simp [wash_len])
  intro j h1 h2
  have hj : j < l.length := by simpa using h1
  simp only [List.getElem_map, Function.comp]
  rw [wash_at hi hj]
  by_cases e : i = j
  · subst e; rw [if_pos rfl, if_pos rfl]
  · rw [if_neg e, if_neg (fun hh => e (page_inj h.nodup hj hi hh).symm)]
theorem wash_F (hn : (fpages l).Nodup) {i : Nat} (hi : i < l.length) : heldF (wash l i hi) = heldF l := by
  funext n
  by_cases hin : n ∈ fpages l
  · obtain ⟨j, hj, rfl⟩ := List.mem_iff_getElem.1 hin
    have hj' : j < l.length := by simpa [fpages] using hj
    have hnw : (fpages (wash l i hi)).Nodup := by rw [wash_pages]; exact hn
    have e1 := heldF_at hnw (i := j) (by rw [wash_len]; exact hj')
    have e2 := heldF_at hn hj'
    rw [wash_at hi hj'] at e1
    simp only [fpages, List.getElem_map]
    rw [e2]
    split at e1
    · rename_i e; subst e; exact e1
    · exact e1
  · rw [heldF_no hin, heldF_no (by rw [wash_pages]; exact hin)]
end
end Go.Sl
namespace Go.Sl
open Go Go.Proofs
attribute [local irreducible] pt own old pur ex all den denOps denS xOps xC cX CX xthen xblk xcut xloop xng retX resX Calls PV Rd Con
attribute [local irreducible] hostA pcl pgSealB pgOpenR HostS.writeR HostS.readR
open PagerS (PS Over)
section
variable {s : PS} {h : HostS.HS} {n : Int}
theorem writeP_worn (hw : s.writes = 4294967295) : PagerS.writeP s h n = (130, PagerS.die s 130, h) := by unfold PagerS.writeP; rw [if_pos hw]
theorem writeP_no (hw : s.writes ≠ 4294967295) (hn : (HostS.writeR h n (PagerS.boxOf s n)).1 ≠ 0) : PagerS.writeP s h n = ((HostS.writeR h n (PagerS.boxOf s n)).1, PagerS.die s (HostS.writeR h n (PagerS.boxOf s n)).1, (HostS.writeR h n (PagerS.boxOf s n)).2) := by unfold PagerS.writeP; rw [if_neg hw]; dsimp only; rw [if_neg hn]
theorem writeP_ok (hw : s.writes ≠ 4294967295) (hn : (HostS.writeR h n (PagerS.boxOf s n)).1 = 0) : PagerS.writeP s h n = (0, PagerS.wroteP s n, (HostS.writeR h n (PagerS.boxOf s n)).2) := by unfold PagerS.writeP; rw [if_neg hw]; dsimp only; rw [if_pos hn]
theorem writeR_err (h : HostS.HS) (n : Int) (b : HostS.Bytes) : (HostS.writeR h n b).1 ≤ 1000 := by
  unfold HostS.writeR
  split
  · split
    · unfold HostS.does
      split
      · (dsimp only; omega)
      · dsimp only
        split
        · (dsimp only; omega)
        · split <;> (dsimp only; omega)
    · (dsimp only; omega)
  · (dsimp only; omega)
end
def plc0 : Plc := ⟨0#64, 0#32, 0#32, 0#32⟩
theorem last_at (s : PS) (n : Int) : ∃ op : Plc, (lastF s.last n).getD (.agg (plc plc0)) = .agg (plc op) ∧ op.version = PagerS.verOf s n := by
  unfold lastF PagerS.verOf
  cases hl : s.last n with
  | none => exact ⟨plc0, rfl, rfl⟩
  | some q => exact ⟨q, rfl, rfl⟩
theorem last_set (f : Int → Option Plc) (n : Int) (q : Plc) : fput (lastF f) n (some (.agg (plc q))) = lastF (HostS.setF f n (some q)) := by
  funext k
  unfold fput lastF HostS.setF
  split <;> rfl
theorem ofNat32_inj {a b : Nat} (ha : a < 4294967296) (hb : b < 4294967296) : BitVec.ofNat 32 a = BitVec.ofNat 32 b ↔ a = b := by
  constructor
  · intro h
    have := congrArg BitVec.toNat h
    simp only [BitVec.toNat_ofNat] at this
    omega
  · rintro rfl; rfl
section
variable {p ph : Nat} {s : PS} {h : HostS.HS}
theorem pwrite_g {c : PC} {l : List FV} (hk : PgOk ph s c l) (hov : Over s h) (hops : h.ops < 3518437208880) {i : Nat} (hi : i < l.length) :
    Con Tryz.prog 148 [hp p, .int .i64 l[i].1.page] (pgL p s c l ++ [hostA ph h]) (fun r M => r = nvv (PagerS.writeP s h l[i].1.page).1 ∧ ∃ l', PgOk ph (PagerS.writeP s h l[i].1.page).2.1 c l' ∧ M = pgL p (PagerS.writeP s h l[i].1.page).2.1 c l' ++ [hostA ph (PagerS.writeP s h l[i].1.page).2.2]) := by
  obtain rfl := hk.ph
  have hkey := hk.ok.key
  have hsz := pg_size (c := c) hkey
  have hwl := hk.ok.writes
  simp only [List.cons_append, List.nil_append]
  by_cases hw : s.writes = 4294967295
  · rw [writeP_worn hw]
    refine fn_y Tryz.func148 Tryz.mixed ?_
    intro w0
    refine Y7 ?_
    refine Zhp rfl qH (pg_f hkey (k := 8) rfl) ?_
    refine Zhg (Zky (x := BitVec.ofNat 32 s.writes) (y := 4294967295#32) rfl rfl) ?_
    refine Zos 13 rfl ((by rw [hw])) ?_
    refine Y4 ?_
    refine Zor (c := die_x hkey 130) (k := ?_)
    rintro _ _ ⟨rfl, rfl⟩
    refine V3 ?_
    refine rx1 (Zg9 rfl (Zg7)) ?_
    exact ⟨_, ⟨rfl, l, ⟨PagerS.ok_die hk.ok 130 (by omega), rfl, hk.held, hk.n⟩, rfl⟩, qI⟩
  · have hl16 := hk.len
    have hfr := hk.fr hi
    have htx : PagerS.textOf s l[i].1.page = l[i].1.text := by unfold PagerS.textOf; rw [hfr]; rfl
    have htl : l[i].1.text.length = s.text := hk.ok.len _ (by rw [hk.held]; exact List.mem_map.2 ⟨l[i], List.getElem_mem hi, rfl⟩)
    have ht1 := hk.ok.t1
    have ht0 := hk.ok.t0
    obtain ⟨op, ho1, ho2⟩ := last_at s l[i].1.page
    have hbox : PagerS.boxOf s l[i].1.page = pgSealB s.key (PagerS.nextPl s l[i].1.page) l[i].1.text := by unfold PagerS.boxOf; rw [htx]
    have hbl : (pgSealB s.key (PagerS.nextPl s l[i].1.page) l[i].1.text).length = s.text + 28 := by rw [pgSealB_len, htl]
    have hsl := pgSeal_x (L := [ownB l[i].2.2.1 l[i].2.2.2 l[i].1.text]) s.key hkey (PagerS.nextPl s l[i].1.page) (Bs.own .here) (by omega)
    rw [pgSealR_ok _ _ _ (by omega)] at hsl
    have enx : PagerS.nextPl s l[i].1.page = ⟨s.round, BitVec.ofNat 32 s.writes, BitVec.ofInt 32 l[i].1.page, op.version + 1#32⟩ := by unfold PagerS.nextPl; rw [ho2]
    have herr := writeR_err h l[i].1.page (PagerS.boxOf s l[i].1.page)
    have hwr := fun xa xc => write_x (p := c.ph) (s := h) (L := [own 5 1 (.slice xa (pgSealB s.key (PagerS.nextPl s l[i].1.page) l[i].1.text).length xc) (pgSealB s.key (PagerS.nextPl s l[i].1.page) l[i].1.text).length ((pgSealB s.key (PagerS.nextPl s l[i].1.page) l[i].1.text).map u8b)]) l[i].1.page (Bs.own .here) hops (by omega)
    rw [← hbox] at hwr hsl
    rw [← hbox] at hbl
    dsimp only at hsl
    refine fn_y Tryz.func148 Tryz.mixed ?_
    intro w0
    refine Y7 ?_
    refine Zhp rfl qH (pg_f hkey (k := 8) rfl) ?_
    refine Zhg (Zky (x := BitVec.ofNat 32 s.writes) (y := 4294967295#32) rfl rfl) ?_
    refine Zot 13 rfl ((fun hh => hw ((ofNat32_inj (by omega) (by omega)).1 hh))) ?_
    refine Y6 ?_
    refine Zhp rfl qH (pg_f hkey (k := 4) rfl) ?_
    refine Y1 ?_
    refine Zoc rfl rfl qH (v := hp l[i].2.1) (by rw [heldF_at hk.nodup hi]; rfl) ?_
    refine V2 ?_
    refine Zij ([cl p (pcl s c) 147, fmA c.bl (lastF s.last)]) [7, 13, 15, 16, 17, 19] (.q 0 (.q 1 (.q 2 (.q 4 (.q 5 (.q 6 (.q 8 (.q 9 (.q 10 (.q 11 (.q 12 (.q 14 (.r 3 (.r 7 (.r 13 (.r 15 (.r 16 (.r 17 (.q 18 (.a 19 (.e 20 false .nil))))))))))))))))))))) (by kernel_rfl) (by kernel_rfl) (Imp.arr qV) ?_
    refine W7 ?_
    refine Zim rfl (Zk6 rfl) ?_
    refine W4 ?_
    refine Ziv rfl rfl qH (pg_f hkey (k := 0) rfl) ?_
    refine Ziv rfl rfl qH (pg_f hkey (k := 8) rfl) ?_
    refine Ziv rfl rfl qH (pg_f hkey (k := 6) rfl) ?_
    refine Zod rfl rfl rfl qH (v := .agg (plc op)) (by exact ho1) ?_
    refine W1 ?_
    refine Ziz rfl (Zkn (y := 1#32) rfl rfl) ?_
    refine Zim rfl (Zdm (cs := plc ⟨s.round, BitVec.ofNat 32 s.writes, BitVec.ofInt 32 l[i].1.page, op.version + 1#32⟩) rfl) ?_
    refine Zir rfl (cs := #[u64b 0#64, u32b 0#32, u32b 0#32, u32b 0#32]) rfl ?_; intro b6
    refine Ziq rfl ?_
    first|refine Zhy rfl rfl qR qZ qN qZ ?_|refine Zhx rfl rfl qR qZ qN qZ rfl ?_
    refine Zg3 ⟨(fun hh => Bool.noConfusion hh), ?_⟩
    refine Zik ?_
    refine Ct.o ?_
    rw [← enx]
    refine Zgp (((Imp.arr (N := star frA l :: cl b6 (plc (PagerS.nextPl s l[i].1.page)) 189 :: cl p (pcl s c) 147 :: fmA c.bh (heldF l) :: fmA c.bl (lastF s.last) :: ownI c.oa c.oc (fpages l) :: [hostA c.ph h]) qV).trans (star_at hi)).trans (Imp.unapp (L := [cl l[i].2.1 #[.slice l[i].2.2.1 l[i].1.text.length l[i].2.2.2, nvv l[i].1.is] 187, ownB l[i].2.2.1 l[i].2.2.2 l[i].1.text]))) ?_
    simp only [List.cons_append, List.nil_append]
    refine Ct.o ?_
    refine Zij ([cl p (pcl s c) 147, cl b6 (plc (PagerS.nextPl s l[i].1.page)) 189, cl l[i].2.1 #[.slice l[i].2.2.1 l[i].1.text.length l[i].2.2.2, nvv l[i].1.is] 187]) [4, 8] (.q 0 (.q 1 (.q 2 (.q 5 (.q 6 (.q 7 (.r 3 (.r 4 (.r 8 (.e 9 false (.q 10 (.q 11 (.q 12 (.q 13 (.q 14 .nil))))))))))))))) (by kernel_rfl) (by kernel_rfl) (Imp.arr qV) ?_
    refine W6 ?_
    refine Zix (n := 32) rfl rfl qH qZ (pg_key hkey) ?_
    refine W2 ?_
    refine Ziq rfl ?_
    refine Zor (c := hsl) (k := ?_)
    rintro _ _ ⟨xa, xc, rfl, rfl⟩
    refine Y1 ?_
    refine Zg3 ⟨(fun hh => Bool.noConfusion hh), ?_⟩
    refine W6 ?_
    refine Y3 ?_
    refine Zos 55 rfl (rfl) ?_
    refine Y6 ?_
    refine Zhp rfl qH (pg_st) ?_
    refine Y2 ?_
    refine Znt rfl (met_write c.ph) (by kernel_rfl) (hwr xa xc) rfl qT ?_
    rintro _ _ ⟨rfl, rfl⟩
    refine V3 ?_
    by_cases h0 : (HostS.writeR h l[i].1.page (PagerS.boxOf s l[i].1.page)).1 = 0
    · rw [writeP_ok hw h0]
      refine Y3 ?_
      refine Zot 64 rfl ((fun hh => hh h0)) ?_
      refine V2 ?_
      refine Zij ([cl p (pcl s c) 147, cl b6 (plc (PagerS.nextPl s l[i].1.page)) 189]) [5] (.q 0 (.q 1 (.q 2 (.q 4 (.r 3 (.r 5 (.e 6 false .nil))))))) (by kernel_rfl) (by kernel_rfl) (Imp.arr qV) ?_
      refine W4 ?_
      refine Ziv rfl rfl qH (pg_f hkey (k := 6) rfl) ?_
      refine W1 ?_
      refine Ziq rfl ?_; refine Zof (v := .agg (plc (PagerS.nextPl s l[i].1.page))) rfl rfl rfl qR ?_; refine Zg3 ⟨(fun hh => Bool.noConfusion hh), ?_⟩
      refine Zik ?_
      refine Ct.o ?_
      rw [last_set]
      have ew : BitVec.ofNat 32 s.writes + 1#32 = BitVec.ofNat 32 (s.writes + 1) := by rw [BitVec.ofNat_add]
      refine Y4 ?_
      refine Zhp rfl qH (pg_f hkey (k := 8) rfl) ?_
      refine Zhg (Zkn (y := 1#32) rfl rfl) ?_
      refine Y2 ?_
      refine Zht rfl rfl qR qZ (pg_s (s := s) (c := c) (s' := PagerS.wroteP s l[i].1.page) (c' := c) hkey (k := 8) (by rw [ew]; rfl) rfl rfl) ?_
      refine V10 ?_
      refine rx1 (Zg9 rfl (Zg7)) ?_
      have hok := PagerS.ok_wrote hk.ok l[i].1.page (by omega)
      have hwh := wash_held hk hi
      refine ⟨_, ⟨rfl, wash l i hi, ⟨hok, rfl, hwh, by rw [wash_pages]; exact hk.n⟩, rfl⟩, ?_⟩
      rw [wash_F hk.nodup hi, wash_pages hi]
      have hst : Imp ([cl l[i].2.1 #[.slice l[i].2.2.1 l[i].1.text.length l[i].2.2.2, nvv 1] 187, ownB l[i].2.2.1 l[i].2.2.2 l[i].1.text] ++ (star frA (l.eraseIdx i) :: cl p (pcl (PagerS.wroteP s l[i].1.page) c) 147 :: fmA c.bh (heldF l) :: fmA c.bl (lastF (PagerS.wroteP s l[i].1.page).last) :: ownI c.oa c.oc (fpages l) :: [hostA c.ph (HostS.writeR h l[i].1.page (PagerS.boxOf s l[i].1.page)).2])) (star frA (wash l i hi) :: cl p (pcl (PagerS.wroteP s l[i].1.page) c) 147 :: fmA c.bh (heldF l) :: fmA c.bl (lastF (PagerS.wroteP s l[i].1.page).last) :: ownI c.oa c.oc (fpages l) :: [hostA c.ph (HostS.writeR h l[i].1.page (PagerS.boxOf s l[i].1.page)).2]) :=
        (Imp.app (L := [cl l[i].2.1 #[.slice l[i].2.2.1 l[i].1.text.length l[i].2.2.2, nvv 1] 187, ownB l[i].2.2.1 l[i].2.2.2 l[i].1.text])).trans (star_back (A := frA) hi ({ l[i].1 with is := 1 }, l[i].2))
      simp only [List.cons_append, List.nil_append] at hst
      exact ((Imp.arr qV).trans hst).trans qI
    · rw [writeP_no hw h0]
      refine Y3 ?_
      refine Zos 64 rfl (h0) ?_
      refine Y5 ?_
      refine Zor (c := die_x hkey (HostS.writeR h l[i].1.page (PagerS.boxOf s l[i].1.page)).1) (k := ?_)
      rintro _ _ ⟨rfl, rfl⟩
      refine V3 ?_
      refine rx1 (Zg9 rfl (Zg7)) ?_
      refine ⟨_, ⟨rfl, l, ⟨PagerS.ok_die hk.ok _ herr, rfl, hk.held, hk.n⟩, rfl⟩, ?_⟩
      have hst : Imp ([cl l[i].2.1 #[.slice l[i].2.2.1 l[i].1.text.length l[i].2.2.2, nvv l[i].1.is] 187, ownB l[i].2.2.1 l[i].2.2.2 l[i].1.text] ++ (star frA (l.eraseIdx i) :: cl p (pcl (PagerS.die s (HostS.writeR h l[i].1.page (PagerS.boxOf s l[i].1.page)).1) c) 147 :: fmA c.bh (heldF l) :: fmA c.bl (lastF s.last) :: ownI c.oa c.oc (fpages l) :: [hostA c.ph (HostS.writeR h l[i].1.page (PagerS.boxOf s l[i].1.page)).2])) (star frA l :: cl p (pcl (PagerS.die s (HostS.writeR h l[i].1.page (PagerS.boxOf s l[i].1.page)).1) c) 147 :: fmA c.bh (heldF l) :: fmA c.bl (lastF s.last) :: ownI c.oa c.oc (fpages l) :: [hostA c.ph (HostS.writeR h l[i].1.page (PagerS.boxOf s l[i].1.page)).2]) := by
        have hb := (Imp.app (L := [cl l[i].2.1 #[.slice l[i].2.2.1 l[i].1.text.length l[i].2.2.2, nvv l[i].1.is] 187, ownB l[i].2.2.1 l[i].2.2.2 l[i].1.text]) (M := star frA (l.eraseIdx i) :: cl p (pcl (PagerS.die s (HostS.writeR h l[i].1.page (PagerS.boxOf s l[i].1.page)).1) c) 147 :: fmA c.bh (heldF l) :: fmA c.bl (lastF s.last) :: ownI c.oa c.oc (fpages l) :: [hostA c.ph (HostS.writeR h l[i].1.page (PagerS.boxOf s l[i].1.page)).2])).trans (star_back (A := frA) hi l[i])
        rwa [List.set_getElem_self] at hb
      simp only [List.cons_append, List.nil_append] at hst
      exact ((Imp.arr qV).trans hst).trans qI
end
end Go.Sl
namespace Go.Sl
open Go Go.Proofs
attribute [local irreducible] pt own old pur ex all den denOps denS xOps xC cX CX xthen xblk xcut xloop xng retX resX Calls PV Rd Con
attribute [local irreducible] hostA pcl pgSealB pgOpenR PagerS.writeP frA
open PagerS (PS Over)
theorem does_ps (h : HostS.HS) (op page : Int) (b : HostS.Bytes) (act : HostS.HS → HostS.HS) (ha : ∀ s, (act s).pages = s.pages ∧ (act s).size = s.size ∧ (act s).ops = s.ops) : (HostS.does h op page b act).1.pages = h.pages ∧ (HostS.does h op page b act).1.size = h.size ∧ (HostS.does h op page b act).1.ops ≤ h.ops + 1 := by
  have h2 := ha (HostS.logged h op page b)
  unfold HostS.does
  split
  · exact ⟨rfl, rfl, Nat.le_succ _⟩
  · dsimp only
    split
    · exact ⟨rfl, rfl, Nat.le_refl _⟩
    · split
      · exact ⟨h2.1, h2.2.1, Nat.le_of_eq h2.2.2⟩
      · exact ⟨h2.1, h2.2.1, Nat.le_of_eq h2.2.2⟩
theorem writeR_ps (h : HostS.HS) (page : Int) (b : HostS.Bytes) : (HostS.writeR h page b).2.pages = h.pages ∧ (HostS.writeR h page b).2.size = h.size ∧ (HostS.writeR h page b).2.ops ≤ h.ops + 1 := by
  unfold HostS.writeR
  split
  · split
    · exact does_ps h 1 page b _ (fun _ => ⟨rfl, rfl, rfl⟩)
    · exact ⟨rfl, rfl, Nat.le_succ _⟩
  · exact ⟨rfl, rfl, Nat.le_succ _⟩
section
variable {s : PS} {h : HostS.HS}
theorem writeP_cases (s : PS) (h : HostS.HS) (n : Int) : (PagerS.writeP s h n = (130, PagerS.die s 130, h)) ∨ (∃ e, e ≠ 0 ∧ e ≤ 1000 ∧ PagerS.writeP s h n = (e, PagerS.die s e, (HostS.writeR h n (PagerS.boxOf s n)).2)) ∨ (s.writes ≠ 4294967295 ∧ PagerS.writeP s h n = (0, PagerS.wroteP s n, (HostS.writeR h n (PagerS.boxOf s n)).2)) := by
  by_cases hw : s.writes = 4294967295
  · exact .inl (writeP_worn hw)
  · by_cases h0 : (HostS.writeR h n (PagerS.boxOf s n)).1 = 0
    · exact .inr (.inr ⟨hw, writeP_ok hw h0⟩)
    · exact .inr (.inl ⟨_, h0, writeR_err _ _ _, writeP_no hw h0⟩)
theorem writeP_over (n : Int) (ho : Over s h) : Over (PagerS.writeP s h n).2.1 (PagerS.writeP s h n).2.2 ∧ (PagerS.writeP s h n).2.2.ops ≤ h.ops + 1 := by
  obtain ⟨w1, w2, w3⟩ := writeR_ps h n (PagerS.boxOf s n)
  rcases writeP_cases s h n with e|⟨x, _, _, e⟩|⟨_, e⟩ <;> rw [e]
  · exact ⟨⟨ho.pages, ho.size⟩, Nat.le_succ _⟩
  · exact ⟨⟨w1.trans ho.pages, w2.trans ho.size⟩, w3⟩
  · exact ⟨⟨w1.trans ho.pages, w2.trans ho.size⟩, w3⟩
end
section
variable {p ph : Nat} {s : PS} {h : HostS.HS}
end
end Go.Sl
namespace Go.Sl
open Go Go.Proofs
attribute [local irreducible] pt own old pur ex all den denOps denS xOps xC cX CX xthen xblk xcut xloop xng retX resX Calls PV Rd Con
attribute [local irreducible] hostA pcl pgSealB pgOpenR PagerS.writeP
open PagerS (PS Over)
theorem heldF_tail {x : FV} {r : List FV} (hn : (fpages (x :: r)).Nodup) : fput (heldF (x :: r)) x.1.page none = heldF r := by
  funext n
  unfold fput
  rw [fpages, List.map_cons, List.nodup_cons] at hn
  by_cases e : n = x.1.page
  · rw [if_pos e, e, heldF_no hn.1]
  · rw [if_neg e]
    unfold heldF
    rw [List.find?_cons_of_neg (by simp only [beq_iff_eq]; exact fun hh => e hh.symm)]
theorem pgok_tail {ph : Nat} {s : PS} {c : PC} {x : FV} {r : List FV} (h : PgOk ph s c (x :: r)) (oa : Option Addr) (oc : Nat) : PgOk ph { s with held := s.held.tail } { c with oa := oa, n := (fpages r).length, oc := oc } r :=
  ⟨PagerS.ok_tail h.ok, h.ph, by show s.held.tail = _; rw [h.held]; rfl, rfl⟩
theorem changedAt_at {ph : Nat} {s : PS} {c : PC} {l : List FV} (h : PgOk ph s c l) {i : Nat} (hi : i < l.length) : PagerS.changedAt s l[i].1.page = (l[i].1.is == 2) := by unfold PagerS.changedAt; rw [h.fr hi]; rfl
section
variable {p ph : Nat} {s : PS} {h : HostS.HS}
theorem room_x (hov : Over s h) (hops : h.ops < 3518437208880) :
    Con Tryz.prog 117 [hp p] [pgA p ph s, hostA ph h] (fun r M => r = nvv (PagerS.roomP s h).1 ∧ M = [pgA p ph (PagerS.roomP s h).2.1, hostA ph (PagerS.roomP s h).2.2]) := by
  refine Con.pgA fun c l hk => ?_
  simp only [List.cons_append, List.nil_append]
  have hkey := hk.ok.key
  have hl16 := hk.len
  have hcn := hk.n
  have hhl : s.held.length = l.length := by rw [hk.held, List.length_map]
  have hfl : (fpages l).length = l.length := by simp [fpages]
  have hwn := hk.ok.w0
  by_cases hw : l.length < s.window
  · have e : PagerS.roomP s h = (0, s, h) := by unfold PagerS.roomP; rw [if_pos (by rw [hhl]; exact hw)]
    rw [e]
    refine fn_y Tryz.func117 Tryz.mixed ?_
    intro w0
    refine V3 ?_
    refine Zij ([cl p (pcl s c) 147]) [8] (.q 0 (.q 1 (.q 2 (.q 5 (.q 6 (.q 7 (.r 3 (.q 4 (.r 8 (.q 9 .nil)))))))))) (by kernel_rfl) (by kernel_rfl) (Imp.arr qV) ?_
    refine W6 ?_
    refine Ziv rfl rfl qH (pg_f hkey (k := 5) rfl) ?_
    refine W1 ?_
    refine Ziv rfl rfl qH (pg_f hkey (k := 1) rfl) ?_
    refine W1 ?_
    refine Zou 14 rfl ((by omega)) ?_
    refine Zik ?_
    refine V4 ?_
    refine rx1 (Zg9 rfl (Zg7)) ?_
    exact ⟨_, ⟨rfl, rfl⟩, (Imp.arr (N := pgL p s c l ++ [hostA ph h]) qV).trans (pgA_mk hk)⟩
  · cases l with
    | nil => simp at hw; omega
    | cons x r =>
      have hnd := hk.nodup
      have hhd : (s.held.head?.map PagerS.Fr.page).getD 0 = x.1.page := by rw [hk.held]; rfl
      have hi0 : 0 < (x :: r).length := Nat.succ_pos _
      have hf0 := heldF_at hnd hi0
      have hca := changedAt_at hk hi0
      simp only [List.getElem_cons_zero] at hf0 hca
      refine Con.get (fun w0 w F H => own_someN (n := (fpages (x :: r)).length) (a := c.oa) (.there (.there (.there .here))) (by simp [fpages]) H) ?_
      rintro ⟨g, hg⟩
      obtain ⟨ph', bh, oa, cn, oc, bl⟩ := c
      dsimp only at hg hcn
      subst hg hcn
      obtain rfl : ph = ph' := hk.ph.symm
      refine fn_y Tryz.func117 Tryz.mixed ?_
      intro w0
      refine V3 ?_
      refine Zij ([cl p (pcl s ⟨ph, bh, some ⟨g, 0, none⟩, (fpages (x :: r)).length, oc, bl⟩) 147]) [8] (.q 0 (.q 1 (.q 2 (.q 5 (.q 6 (.q 7 (.r 3 (.q 4 (.r 8 (.q 9 .nil)))))))))) (by kernel_rfl) (by kernel_rfl) (Imp.arr qV) ?_
      refine W6 ?_
      refine Ziv rfl rfl qH (pg_f hkey (k := 5) rfl) ?_
      refine W1 ?_
      refine Ziv rfl rfl qH (pg_f hkey (k := 1) rfl) ?_
      refine W1 ?_
      refine Zov 14 rfl ((by rw [hfl]; exact hw)) ?_
      refine Zik ?_
      refine V1 ?_
      have hg0 : (zv (fpages (x :: r)))[0]? = some (.int .i64 x.1.page) := rfl
      refine Y4 ?_
      refine Zhp rfl qH (pg_f hkey (k := 5) rfl) ?_
      refine Zhg (Zl4 (n := 0) rfl rfl (by rw [hfl]; exact hi0)) ?_
      refine Zff rfl (((Rd.own (n := (fpages (x :: r)).length) qH).at0 (by rw [hfl]; exact hi0) hg0)) ?_
      refine V2 ?_
      refine Zgp (((Imp.arr (N := star frA (x :: r) :: cl p (pcl s ⟨ph, bh, some ⟨g, 0, none⟩, (fpages (x :: r)).length, oc, bl⟩) 147 :: fmA bh (heldF (x :: r)) :: fmA bl (lastF s.last) :: ownI (some ⟨g, 0, none⟩) oc (fpages (x :: r)) :: [hostA ph h]) qV).trans star_uncons).trans (Imp.unapp (L := [cl x.2.1 #[.slice x.2.2.1 x.1.text.length x.2.2.2, nvv x.1.is] 187, ownB x.2.2.1 x.2.2.2 x.1.text]))) ?_
      simp only [List.cons_append, List.nil_append]
      refine Y4 ?_
      refine Zhp rfl qH (pg_f hkey (k := 4) rfl) ?_
      refine Y1 ?_
      refine Zoc rfl rfl qH (v := hp x.2.1) (by rw [hf0]; rfl) ?_
      refine V5 ?_
      by_cases h2 : x.1.is = 2
      · refine Zge (by show Value.bool (decide _) = _; rw [decide_eq_true h2]) ?_
        refine Ct.o ?_
        refine Zgp (((Imp.arr (N := [cl x.2.1 #[.slice x.2.2.1 x.1.text.length x.2.2.2, nvv x.1.is] 187, ownB x.2.2.1 x.2.2.2 x.1.text] ++ (star frA r :: cl p (pcl s ⟨ph, bh, some ⟨g, 0, none⟩, (fpages (x :: r)).length, oc, bl⟩) 147 :: fmA bh (heldF (x :: r)) :: fmA bl (lastF s.last) :: ownI (some ⟨g, 0, none⟩) oc (fpages (x :: r)) :: [hostA ph h])) qV).trans (Imp.app (L := [cl x.2.1 #[.slice x.2.2.1 x.1.text.length x.2.2.2, nvv x.1.is] 187, ownB x.2.2.1 x.2.2.2 x.1.text]))).trans (star_cons (A := frA) (x := x) (l := r))) ?_
        have hwx := pwrite_g (p := p) hk hov hops hi0
        simp only [List.getElem_cons_zero, List.cons_append, List.nil_append] at hwx
        have hch : PagerS.changedAt s x.1.page = true := by rw [hca, h2]; rfl
        refine Y3 ?_
        refine Zor (c := hwx) (k := ?_)
        rintro _ _ ⟨rfl, l', hk', rfl⟩
        refine V3 ?_
        by_cases h0 : (PagerS.writeP s h x.1.page).1 = 0
        · have e : PagerS.roomP s h = (0, { (PagerS.writeP s h x.1.page).2.1 with held := (PagerS.writeP s h x.1.page).2.1.held.tail }, (PagerS.writeP s h x.1.page).2.2) := by
            unfold PagerS.roomP
            rw [if_neg (by rw [hhl]; exact hw)]
            dsimp only
            rw [hhd, if_pos hch, if_pos h0]
          rw [e]
          have hsame : PagerS.numbers (PagerS.writeP s h x.1.page).2.1 = PagerS.numbers s := by
            rcases writeP_cases s h x.1.page with ee|⟨_, _, _, ee⟩|⟨_, ee⟩ <;> rw [ee]
            · rfl
            · rfl
            · exact PagerS.cleaned_pages _ _
          have hfp : fpages l' = fpages (x :: r) := by
            have a1 : PagerS.numbers (PagerS.writeP s h x.1.page).2.1 = fpages l' := by unfold PagerS.numbers; rw [hk'.held, List.map_map]; rfl
            have a2 : PagerS.numbers s = fpages (x :: r) := by unfold PagerS.numbers; rw [hk.held, List.map_map]; rfl
            rw [← a1, hsame, a2]
          generalize (PagerS.writeP s h x.1.page).2.1 = s1 at hk' hsame ⊢
          generalize (PagerS.writeP s h x.1.page).2.2 = h1 at ⊢
          cases l' with
          | nil => simp [fpages] at hfp
          | cons x1 r1 =>
            have hx1 : x1.1.page = x.1.page := by simpa [fpages] using (List.cons.inj hfp).1
            have hkey1 := hk'.ok.key
            have hnd1 := hk'.nodup
            rw [← hfp]
            refine Y3 ?_
            refine Zot 35 rfl ((fun hh => hh h0)) ?_
            refine V2 ?_
            have hs1 := pg_size (s := s1) (c := ⟨ph, bh, some ⟨g, 0, none⟩, (fpages (x1 :: r1)).length, oc, bl⟩) hkey1
            refine Y5 ?_
            refine Zhp rfl qH (pg_f hkey1 (k := 5) rfl) ?_
            refine Zor (c := delete_x (g := g) (c := oc) (i := 0) (zs := fpages (x1 :: r1)) (by simp [fpages]) (by have := hk'.len; simp [fpages] at *; omega)) (k := ?_)
            rintro _ _ ⟨rfl, rfl⟩
            refine Y3 ?_
            refine Zhw rfl rfl qR qZ (pg_s (s := s1) (c := ⟨ph, bh, some ⟨g, 0, none⟩, (fpages (x1 :: r1)).length, oc, bl⟩) (s' := { s1 with held := s1.held.tail }) (c' := ⟨ph, bh, some ⟨g, 0, none⟩, (fpages r1).length, oc, bl⟩) hkey1 (k := 5) rfl rfl rfl) ?_
            refine Y5 ?_
            refine Zhp rfl qH (pg_f (s := { s1 with held := s1.held.tail }) hkey1 (k := 4) rfl) ?_
            refine Y1 ?_
            refine Zog rfl rfl qR ?_
            refine V4 ?_
            refine rx1 (Zg9 rfl (Zg7)) ?_
            rw [← hx1, heldF_tail hnd1]
            have ht := pgok_tail hk' (some ⟨g, 0, none⟩) oc
            exact ⟨_, ⟨rfl, rfl⟩, ((((Imp.arr (N := star frA (x1 :: r1) :: cl p (pcl { s1 with held := s1.held.tail } ⟨ph, bh, some ⟨g, 0, none⟩, (fpages r1).length, oc, bl⟩) 147 :: fmA bh (heldF r1) :: fmA bl (lastF s1.last) :: ownI (some ⟨g, 0, none⟩) oc (fpages r1) :: [hostA ph h1]) qV).trans star_uncons).trans Imp.tail).trans (Imp.arr (N := pgL p { s1 with held := s1.held.tail } ⟨ph, bh, some ⟨g, 0, none⟩, (fpages r1).length, oc, bl⟩ r1 ++ [hostA ph h1]) qV)).trans (pgA_mk ht)⟩
        · have e : PagerS.roomP s h = PagerS.writeP s h x.1.page := by
            unfold PagerS.roomP
            rw [if_neg (by rw [hhl]; exact hw)]
            dsimp only
            rw [hhd, if_pos hch, if_neg h0]
          rw [e]
          refine Y3 ?_
          refine Zos 35 rfl (h0) ?_
          refine V6 ?_
          refine rx1 (Zg9 rfl (Zg7)) ?_
          exact ⟨_, ⟨rfl, rfl⟩, (Imp.arr (N := pgL p (PagerS.writeP s h x.1.page).2.1 ⟨ph, bh, some ⟨g, 0, none⟩, (fpages (x :: r)).length, oc, bl⟩ l' ++ [hostA ph (PagerS.writeP s h x.1.page).2.2]) qV).trans (pgA_mk hk')⟩
      · refine Zgf (by show Value.bool (decide _) = _; rw [decide_eq_false h2]) ?_
        refine Ct.o ?_
        have hch : ¬ PagerS.changedAt s x.1.page = true := by rw [hca]; simpa using h2
        have e : PagerS.roomP s h = (0, { s with held := s.held.tail }, h) := by
          unfold PagerS.roomP
          rw [if_neg (by rw [hhl]; exact hw)]
          dsimp only
          rw [hhd, if_neg hch]
        rw [e]
        have hs1 := pg_size (s := s) (c := ⟨ph, bh, some ⟨g, 0, none⟩, (fpages (x :: r)).length, oc, bl⟩) hkey
        refine Y5 ?_
        refine Zhp rfl qH (pg_f hkey (k := 5) rfl) ?_
        refine Zor (c := delete_x (g := g) (c := oc) (i := 0) (zs := fpages (x :: r)) (by simp [fpages]) (by have := hk.len; simp [fpages] at *; omega)) (k := ?_)
        rintro _ _ ⟨rfl, rfl⟩
        refine Y3 ?_
        refine Zhw rfl rfl qR qZ (pg_s (s := s) (c := ⟨ph, bh, some ⟨g, 0, none⟩, (fpages (x :: r)).length, oc, bl⟩) (s' := { s with held := s.held.tail }) (c' := ⟨ph, bh, some ⟨g, 0, none⟩, (fpages r).length, oc, bl⟩) hkey (k := 5) rfl rfl rfl) ?_
        refine Y5 ?_
        refine Zhp rfl qH (pg_f (s := { s with held := s.held.tail }) hkey (k := 4) rfl) ?_
        refine Y1 ?_
        refine Zog rfl rfl qR ?_
        refine V4 ?_
        refine rx1 (Zg9 rfl (Zg7)) ?_
        rw [heldF_tail hnd]
        have ht := pgok_tail hk (some ⟨g, 0, none⟩) oc
        exact ⟨_, ⟨rfl, rfl⟩, (Imp.arr (N := pgL p { s with held := s.held.tail } ⟨ph, bh, some ⟨g, 0, none⟩, (fpages r).length, oc, bl⟩ r ++ [hostA ph h]) qV).trans (pgA_mk ht)⟩
end
end Go.Sl
namespace Go.Sl
open Go Go.Proofs
attribute [local irreducible] pt own old pur ex all den denOps denS xOps xC cX CX xthen xblk xcut xloop xng retX resX Calls PV Rd Con
attribute [local irreducible] hostA pcl pgSealB pgOpenR PagerS.writeP
open PagerS (PS Over)
def othersF (l : List FV) (n : Int) : List FV := l.filter fun e => !(e.1.page == n)
theorem others_pages (l : List FV) (n : Int) : fpages (othersF l n) = (fpages l).filter fun z => !(z == n) := by
  unfold othersF fpages
  rw [List.filter_map]; rfl
theorem others_no {l : List FV} {n : Int} (h : n ∉ fpages l) : othersF l n = l := List.filter_eq_self.2 fun e he => by
  simp only [Bool.not_eq_true', beq_eq_false_iff_ne, ne_eq]
  exact fun hh => h (hh ▸ List.mem_map.2 ⟨e, he, rfl⟩)
theorem others_at {l : List FV} (hn : (fpages l).Nodup) {i : Nat} (hi : i < l.length) : othersF l l[i].1.page = l.eraseIdx i := by
  rw [List.eraseIdx_eq_take_drop_succ]
  have e : l = l.take i ++ (l[i] :: l.drop (i + 1)) := by rw [← List.drop_eq_getElem_cons hi, List.take_append_drop]
  have key : ∀ (A B : List FV) (x : FV), (fpages (A ++ x :: B)).Nodup → (A ++ x :: B).filter (fun e => !(e.1.page == x.1.page)) = A ++ B := by
    intro A B x h
    rw [fpages, List.map_append, List.map_cons, List.nodup_append] at h
    obtain ⟨_, h2, h3⟩ := h
    rw [List.nodup_cons] at h2
    rw [List.filter_append, List.filter_cons_of_neg (by simp)]
    rw [List.filter_eq_self.2, List.filter_eq_self.2]
    · intro e he
      simp only [Bool.not_eq_true', beq_eq_false_iff_ne, ne_eq]
      exact fun hh => h2.1 (hh ▸ List.mem_map.2 ⟨e, he, rfl⟩)
    · intro e he
      simp only [Bool.not_eq_true', beq_eq_false_iff_ne, ne_eq]
      exact fun hh => h3 _ (List.mem_map.2 ⟨e, he, rfl⟩) _ (List.mem_cons_self ..) hh
  have := key (l.take i) (l.drop (i + 1)) l[i] (by rw [← e]; exact hn)
  rw [← e] at this
  exact this
theorem heldF_use (l : List FV) (n : Int) (e : FV) (he : e.1.page = n) : heldF (othersF l n ++ [e]) = fput (heldF l) n (some (hp e.2.1)) := by
  funext k
  unfold heldF fput
  rw [List.find?_append]
  by_cases hk : k = n
  · subst hk
    rw [if_pos rfl, List.find?_eq_none.2 (by
      intro x hx
      have := (List.mem_filter.1 hx).2
      simp only [Bool.not_eq_true', beq_eq_false_iff_ne, ne_eq] at this
      simpa using this)]
    simp [he]
  · rw [if_neg hk]
    have e1 : (othersF l n).find? (fun e => e.1.page == k) = l.find? fun e => e.1.page == k := by
      unfold othersF
      rw [List.find?_filter]
      congr 1
      funext x
      by_cases hx : x.1.page = k
      · simp [hx, hk]
      · simp [hx]
    rw [e1]
    cases hf : l.find? (fun e => e.1.page == k) with
    | some x =>
      show _ = Option.map (fun e : FV => hp e.2.1) (l.find? fun e => e.1.page == k)
      rw [hf]; rfl
    | none =>
      have : ¬ e.1.page = k := fun hh => hk (by rw [← hh, he])
      show _ = Option.map (fun e : FV => hp e.2.1) (l.find? fun e => e.1.page == k)
      rw [hf]
      simp [this]
theorem used_pages (l : List FV) (n : Int) (e : FV) (he : e.1.page = n) : fpages (othersF l n ++ [e]) = used (fpages l) n := by
  unfold used
  rw [← others_pages]
  simp [fpages, he]
theorem pgok_use {ph : Nat} {s : PS} {c : PC} {l : List FV} (h : PgOk ph s c l) (e : FV) (hr : (PagerS.frOf s e.1.page).isSome = true ∨ s.held.length < s.window) (hp : 0 ≤ e.1.page ∧ e.1.page < s.pages) (hl : e.1.text.length = s.text) (hi : e.1.is ≤ 2) (oa : Option Addr) (oc : Nat) :
    PgOk ph (PagerS.useP s e.1) { c with oa := oa, n := (used (fpages l) e.1.page).length, oc := oc } (othersF l e.1.page ++ [e]) := by
  refine ⟨PagerS.ok_use h.ok hr hp hl hi, h.ph, ?_, by rw [used_pages l e.1.page e rfl]⟩
  show (s.held.filter fun g => !(g.page == e.1.page)) ++ [e.1] = _
  rw [h.held, List.filter_map, List.map_append]
  rfl
theorem used_len {ph : Nat} {s : PS} {c : PC} {l : List FV} (h : PgOk ph s c l) (e : FV) : max s.most (used (fpages l) e.1.page).length = (PagerS.useP s e.1).most := by
  show _ = max s.most ((s.held.filter fun g => !(g.page == e.1.page)) ++ [e.1]).length
  unfold used
  rw [← others_pages, h.held, List.filter_map, List.length_append, List.length_append, List.length_map]
  simp [fpages, othersF, Function.comp_def]
theorem roomP_over {s : PS} {h : HostS.HS} (ho : Over s h) : Over (PagerS.roomP s h).2.1 (PagerS.roomP s h).2.2 ∧ (PagerS.roomP s h).2.2.ops ≤ h.ops + 1 := by
  unfold PagerS.roomP
  split
  · exact ⟨ho, Nat.le_succ _⟩
  · dsimp only
    obtain ⟨w1, w2⟩ := writeP_over ((s.held.head?.map PagerS.Fr.page).getD 0) ho
    split
    · split
      · exact ⟨⟨w1.pages, w1.size⟩, w2⟩
      · exact ⟨w1, w2⟩
    · exact ⟨⟨ho.pages, ho.size⟩, Nat.le_succ _⟩
theorem writeP_same (s : PS) (h : HostS.HS) (n : Int) : PagerS.numbers (PagerS.writeP s h n).2.1 = PagerS.numbers s ∧ (PagerS.writeP s h n).2.1.window = s.window ∧ (PagerS.writeP s h n).2.1.pages = s.pages ∧ (PagerS.writeP s h n).2.1.text = s.text ∧ (PagerS.writeP s h n).2.1.key = s.key := by
  rcases writeP_cases s h n with ee|⟨_, _, _, ee⟩|⟨_, ee⟩ <;> rw [ee]
  · exact ⟨rfl, rfl, rfl, rfl, rfl⟩
  · exact ⟨rfl, rfl, rfl, rfl, rfl⟩
  · exact ⟨PagerS.cleaned_pages _ _, rfl, rfl, rfl, rfl⟩
theorem roomP_same {s : PS} {h : HostS.HS} (hk : PagerS.Ok s) : (PagerS.roomP s h).2.1.window = s.window ∧ (PagerS.roomP s h).2.1.pages = s.pages ∧ (PagerS.roomP s h).2.1.text = s.text ∧ (PagerS.roomP s h).2.1.key = s.key ∧ (∀ n, n ∉ PagerS.numbers s → n ∉ PagerS.numbers (PagerS.roomP s h).2.1) ∧ ((PagerS.roomP s h).1 = 0 → (PagerS.roomP s h).2.1.held.length < s.window) := by
  have tl : ∀ (x : PS) n, n ∉ PagerS.numbers x → n ∉ PagerS.numbers { x with held := x.held.tail } := fun x n hn hh => hn (by
    unfold PagerS.numbers at hh ⊢
    obtain ⟨f, hf, e⟩ := List.mem_map.1 hh
    exact List.mem_map.2 ⟨f, List.mem_of_mem_tail hf, e⟩)
  have hw0 := hk.w0
  have hm := hk.many
  unfold PagerS.roomP
  split
  · rename_i hl; exact ⟨rfl, rfl, rfl, rfl, fun _ h => h, fun _ => hl⟩
  · rename_i hl
    dsimp only
    obtain ⟨w1, w2, w3, w4, w5⟩ := writeP_same s h ((s.held.head?.map PagerS.Fr.page).getD 0)
    have hlen : (PagerS.writeP s h ((s.held.head?.map PagerS.Fr.page).getD 0)).2.1.held.length = s.held.length := by
      have := congrArg List.length w1
      unfold PagerS.numbers at this
      rwa [List.length_map, List.length_map] at this
    split
    · split
      · refine ⟨w2, w3, w4, w5, fun n hn => tl _ n (by rw [w1]; exact hn), fun _ => ?_⟩
        show (PagerS.writeP s h _).2.1.held.tail.length < _
        rw [List.length_tail, hlen]; omega
      · rename_i h0
        exact ⟨w2, w3, w4, w5, fun n hn => by rw [w1]; exact hn, fun hh => absurd hh h0⟩
    · refine ⟨rfl, rfl, rfl, rfl, fun n hn => tl s n hn, fun _ => ?_⟩
      show s.held.tail.length < _
      rw [List.length_tail]; omega
end Go.Sl
namespace Go.Sl
open Go Go.Proofs
attribute [local irreducible] pt own old pur ex all den denOps denS xOps xC cX CX xthen xblk xcut xloop xng retX resX Calls PV Rd Con
attribute [local irreducible] hostA pcl pgSealB pgOpenR PagerS.writeP PagerS.roomP
open PagerS (PS Over)
theorem spoilt_len {h : HostS.HS} (hk : HostS.Ok h) (n : Int) (l : List HostS.Fault) : (HostS.spoilt h n l).length = h.size := by
  unfold HostS.spoilt
  have : ∀ (l : List HostS.Fault) (b : HostS.Bytes), b.length = h.size → (l.foldl (HostS.spoil1 h n) b).length = h.size := by
    intro l
    induction l with
    | nil => intro b hb; exact hb
    | cons f r ih =>
      intro b hb
      rw [List.foldl_cons]
      refine ih _ ?_
      unfold HostS.spoil1
      split
      · split
        · simpa using hb
        · exact hb
      · split
        · exact back_len hk _ _
        · split
          · split
            · exact back_len hk _ _
            · exact hb
          · exact hb
  exact this l _ (back_len hk _ _)
theorem readR_len {h : HostS.HS} (hk : HostS.Ok h) {n : Int} (hz : (HostS.readR h n).2.1 = 0) : (HostS.readR h n).1.length = h.size := by
  unfold HostS.readR at hz ⊢
  split
  · rename_i ht
    rw [if_pos ht] at hz
    dsimp only at hz ⊢
    split
    · exact spoilt_len hk _ _
    · rename_i h0; rw [if_neg h0] at hz; exact absurd hz h0
  · rename_i ht
    rw [if_neg ht] at hz; cases hz
theorem readR_err2 (h : HostS.HS) (n : Int) : (HostS.readR h n).2.1 ≤ 1000 := by
  unfold HostS.readR
  split
  · dsimp only
    split
    · dsimp only; omega
    · dsimp only
      unfold HostS.does
      split
      · (dsimp only; omega)
      · dsimp only
        split
        · (dsimp only; omega)
        · split <;> (dsimp only; omega)
  · dsimp only; omega
section
variable {p ph : Nat} {s : PS} {h : HostS.HS}
theorem pg_small {F : FuncId} {args : List Value} {v : Value} (hc : ∀ c : PC, s.key.length = 32 → Con Tryz.prog F args [cl p (pcl s c) 147] (fun r M => r = v ∧ M = [cl p (pcl s c) 147])) : Con Tryz.prog F args [pgA p ph s] (fun r M => r = v ∧ M = [pgA p ph s]) :=
  Con.pgA (L := []) fun c l hk => ((hc c hk.ok.key).frame (L := [fmA c.bh (heldF l), fmA c.bl (lastF s.last), ownI c.oa c.oc (fpages l), star frA l])).mono fun r M ⟨M', ⟨h1, h2⟩, h3⟩ => by subst h2 h3; exact ⟨_, pgA_mk hk (L := []), h1, rfl⟩
theorem right_p (n : Int) : Con Tryz.prog 116 [hp p, .int .i64 n] [pgA p ph s] (fun r M => r = nvv (PagerS.rightP s n) ∧ M = [pgA p ph s]) := pg_small fun c hk => right_x hk n
theorem pages_p : Con Tryz.prog 75 [hp p] [pgA p ph s] (fun r M => r = .int .i64 s.pages ∧ M = [pgA p ph s]) := pg_small fun c hk => pPages_x hk
theorem text_p : Con Tryz.prog 74 [hp p] [pgA p ph s] (fun r M => r = nvv s.text ∧ M = [pgA p ph s]) := pg_small fun c hk => pText_x hk
theorem pg_used {c : PC} {l : List FV} {L : List Asrt} (hk : PgOk ph s c l) (e : FV) (hr : (PagerS.frOf s e.1.page).isSome = true ∨ s.held.length < s.window) (hpp : 0 ≤ e.1.page ∧ e.1.page < s.pages) (hl : e.1.text.length = s.text) (hi : e.1.is ≤ 2) (oa : Option Addr) (oc : Nat) :
    Imp (cl p (pcl { s with most := max s.most (used (fpages l) e.1.page).length } { c with oa := oa, n := (used (fpages l) e.1.page).length, oc := oc }) 147 :: fmA c.bh (fput (heldF l) e.1.page (some (hp e.2.1))) :: fmA c.bl (lastF s.last) :: ownI oa oc (used (fpages l) e.1.page) :: star frA (othersF l e.1.page) :: frA e :: L) (pgA p ph (PagerS.useP s e.1) :: L) := by
  have hk' := pgok_use hk e hr hpp hl hi oa oc
  have hm := used_len hk e
  rw [hm, ← heldF_use l e.1.page e rfl, ← used_pages l e.1.page e rfl]
  rw [← used_pages l e.1.page e rfl] at hk'
  have h1 : Imp (frA e :: star frA (othersF l e.1.page) :: (cl p (pcl { s with most := (PagerS.useP s e.1).most } { c with oa := oa, n := (fpages (othersF l e.1.page ++ [e])).length, oc := oc }) 147 :: fmA c.bh (heldF (othersF l e.1.page ++ [e])) :: fmA c.bl (lastF s.last) :: ownI oa oc (fpages (othersF l e.1.page ++ [e])) :: L)) (star frA (othersF l e.1.page ++ [e]) :: (cl p (pcl { s with most := (PagerS.useP s e.1).most } { c with oa := oa, n := (fpages (othersF l e.1.page ++ [e])).length, oc := oc }) 147 :: fmA c.bh (heldF (othersF l e.1.page ++ [e])) :: fmA c.bl (lastF s.last) :: ownI oa oc (fpages (othersF l e.1.page ++ [e])) :: L)) := star_snoc
  have h2 : Imp (pgL p (PagerS.useP s e.1) { c with oa := oa, n := (fpages (othersF l e.1.page ++ [e])).length, oc := oc } (othersF l e.1.page ++ [e]) ++ L) (pgA p ph (PagerS.useP s e.1) :: L) := pgA_mk hk'
  have h3 : pcl { s with most := (PagerS.useP s e.1).most } { c with oa := oa, n := (fpages (othersF l e.1.page ++ [e])).length, oc := oc } = pcl (PagerS.useP s e.1) { c with oa := oa, n := (fpages (othersF l e.1.page ++ [e])).length, oc := oc } := by with_unfolding_all rfl
  rw [h3] at h1 ⊢
  exact ((Imp.arr qV).trans h1).trans ((Imp.arr qV).trans h2)
theorem frA_mk {e : FV} {L : List Asrt} : Imp (cl e.2.1 #[.slice e.2.2.1 e.1.text.length e.2.2.2, nvv e.1.is] 187 :: ownB e.2.2.1 e.2.2.2 e.1.text :: L) (frA e :: L) := Imp.app (L := [cl e.2.1 #[.slice e.2.2.1 e.1.text.length e.2.2.2, nvv e.1.is] 187, ownB e.2.2.1 e.2.2.2 e.1.text])
theorem frA_open {e : FV} {L : List Asrt} : Imp (frA e :: L) (cl e.2.1 #[.slice e.2.2.1 e.1.text.length e.2.2.2, nvv e.1.is] 187 :: ownB e.2.2.1 e.2.2.2 e.1.text :: L) := Imp.unapp (L := [cl e.2.1 #[.slice e.2.2.1 e.1.text.length e.2.2.2, nvv e.1.is] 187, ownB e.2.2.1 e.2.2.2 e.1.text])
theorem held_lt {c : PC} {l : List FV} (hk : PgOk ph s c l) {n : Int} (hn : n ∈ fpages l) : ∃ i, ∃ hi : i < l.length, l[i].1.page = n := by
  obtain ⟨i, hi, e⟩ := List.mem_iff_getElem.1 hn
  have hi' : i < l.length := by simpa [fpages] using hi
  exact ⟨i, hi', by rw [← e]; simp [fpages]⟩
theorem numbers_f {c : PC} {l : List FV} (hk : PgOk ph s c l) : PagerS.numbers s = fpages l := by
  unfold PagerS.numbers
  rw [hk.held, List.map_map]; rfl
end
end Go.Sl
