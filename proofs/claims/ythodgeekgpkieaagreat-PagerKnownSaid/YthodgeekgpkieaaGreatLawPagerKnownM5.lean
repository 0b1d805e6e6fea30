/- Parts of the proof, joined: RpK, RpH, RpI, RpJ, RefR, RefT, PgrM, PgrV, PgrU, PgrX, OpenPg, PlA, PnA, PlB, PlW, PlC, PnB, PnC, PlD, EngK, PlJ, PnD, PkA, PkB. -/
import Derived.Test.YthodgeekgpkieaaGreatLawPagerKnownM0
import Derived.Test.YthodgeekgpkieaaGreatLawPagerKnownM1
import Derived.Test.YthodgeekgpkieaaGreatLawPagerKnownM2
import Derived.Test.YthodgeekgpkieaaGreatLawPagerKnownM3
import Derived.Test.YthodgeekgpkieaaGreatLawPagerKnownM4
import Derived.Test.YthodgeekgpkieaaGreatRows
/- the document's pager (trystref13): New, walked. -/
set_option maxHeartbeats 4000000
set_option maxRecDepth 10000
set_option linter.unusedVariables false
set_option linter.unusedSimpArgs false
namespace Go.Sl
open Go Go.Proofs
attribute [local irreducible] pt pur ex all den denOps denS xOps xC cX CX xthen xblk xcut xloop xng retX resX Calls PV Rd Con
attribute [local irreducible] hostA pcl pgSealB pgOpenR HostS.writeR HostS.readR PagerS.roomP PagerS.useP
open PagerS (PS Over)
abbrev rtail0 : List Value := [.int .u64 0, .int .i64 0, .int .i64 0, .int .i64 0, .slice none 0 0, .slice none 0 0, .int .i64 0, .int .i64 0, .int .i64 0, .bool false]
abbrev rtailN (round : BitVec 64) (window pages : Int) (text : Nat) : List Value := [u64b round, .int .i64 window, .int .i64 pages, nvv text, .slice none 0 0, .slice none 0 0, .int .i64 0, .int .i64 0, .int .i64 0, .bool false]
theorem rnewp_fill {pl : Nat → Option (Nat × Nat)} {q : Nat} {key : List Byte} {round : BitVec 64} {window pages : Int} {text : Nat} (hk : key.length = 32) (h0 : pl 0 = some (0, 1)) (h1 : pl 1 = some (1, 32)) (h2 : pl 2 = some (33, 1)) (h3 : pl 3 = some (34, 1)) (h4 : pl 4 = some (35, 1)) (h5 : pl 5 = some (36, 1)) :
    Instr.fill pl ([] ++ ([Value.pointer none] ++ (List.replicate 32 (Value.int .u8 0) ++ rtail0))).toArray [(0, hp q), (1, .agg (key.map u8b).toArray), (2, u64b round), (3, .int .i64 window), (4, .int .i64 pages), (5, nvv text)] = some ((hp q :: key.map u8b) ++ rtailN round window pages text).toArray := by
  refine fill_seg (V := [hp q]) h0 rfl rfl rfl rfl ?_
  refine fill_seg (A := [hp q]) (V := key.map u8b) h1 rfl (by simp) (by simp [Value.cells]) (by simp [hk]) ?_
  have hh : (hp q :: key.map u8b).length = 33 := by simp [hk]
  refine fill_tl (H := hp q :: key.map u8b) (k := 0) h2 (by omega) (by decide) rfl rfl ?_
  refine fill_tl (k := 1) h3 (by omega) (by simp) rfl rfl ?_
  refine fill_tl (k := 2) h4 (by omega) (by simp) rfl rfl ?_
  refine fill_tl (k := 3) h5 (by omega) (by simp) rfl rfl ?_
  exact fill_end
section
variable {q : Nat} {h : HostS.HS} {fl : List HostS.Fault}
theorem rpnew_x {key : List Byte} (hk : key.length = 32) (round : BitVec 64) (window : Int) :
    Con Tryz.prog 39 [hp q, .agg (key.map u8b).toArray, u64b round, .int .i64 window] [refA q h fl] (fun r M => (newR h window = 0 ∧ ∃ p, r = .tuple #[hp p, nvv 0] ∧ M = [rpA p q (PagerS.freshP key round window.toNat h.pages (h.size - 28)), refA q h fl]) ∨ (newR h window ≠ 0 ∧ r = .tuple #[.pointer none, nvv (newR h window)] ∧ M = [refA q h fl])) := by
  refine Con.refA fun wl fa fc wa wc la lc hr => ?_
  have hback : Imp (refL q h fl wl fa fc wa wc la lc ++ []) [refA q h fl] := refA_mk hr
  have hho := hr.ok
  simp only [List.cons_append, List.nil_append] at hback ⊢
  unfold newR
  by_cases hw1 : window < 2
  · rw [if_pos (.inl hw1)]
    refine fn_x Tryz.func39 rfl rfl rfl Tryz.mixed (by kernel_rfl) ?_
    intro w0
    refine Y1 ?_
    refine Zh5 rfl ?_; intro b5
    refine Y5 ?_
    refine Zhg (Zbn (b := 2) rfl rfl) ?_
    refine Zhm 11 rfl (decide_eq_true (hw1)) ?_
    refine V10 ?_
    refine rx2 (Zhb rfl (Zg9 rfl (Zg7))) ?_
    exact ⟨_, .inr ⟨by omega, rfl, rfl⟩, (Imp.arr qV).trans hback⟩
  by_cases hw2 : 16 < window
  · rw [if_pos (.inr hw2)]
    refine fn_x Tryz.func39 rfl rfl rfl Tryz.mixed (by kernel_rfl) ?_
    intro w0
    refine Y1 ?_
    refine Zh5 rfl ?_; intro b5
    refine Y5 ?_
    refine Zhg (Zbn (b := 2) rfl rfl) ?_
    refine Zhn 11 rfl (decide_eq_false (hw1)) ?_
    refine Y2 ?_
    first|refine Y0 ?_|(refine Zhh rfl ?_; (refine Zhg (Zbp (b := 16) rfl rfl) ?_))
    refine Zhm 14 rfl (decide_eq_true (hw2)) ?_
    refine V7 ?_
    refine rx2 (Zhb rfl (Zg9 rfl (Zg7))) ?_
    exact ⟨_, .inr ⟨by omega, rfl, rfl⟩, (Imp.arr qV).trans hback⟩
  rw [if_neg (show ¬ (window < 2 ∨ 16 < window) by omega)]
  have hp0 := hho.p0
  have hp1 := hho.p1
  have hz0 := hho.z0
  have hz1 := hho.z1
  by_cases hz : h.size ≤ 28
  · rw [if_pos hz]
    refine fn_x Tryz.func39 rfl rfl rfl Tryz.mixed (by kernel_rfl) ?_
    intro w0
    refine Y1 ?_
    refine Zh5 rfl ?_; intro b5
    refine Y5 ?_
    refine Zhg (Zbn (b := 2) rfl rfl) ?_
    refine Zhn 11 rfl (decide_eq_false (hw1)) ?_
    refine Y2 ?_
    first|refine Y0 ?_|(refine Zhh rfl ?_; (refine Zhg (Zbp (b := 16) rfl rfl) ?_))
    refine Zhn 14 rfl (decide_eq_false (hw2)) ?_
    refine Y8 ?_
    refine Zhg (Zbn (a := (h.size : Int)) (b := 29) rfl rfl) ?_
    refine Zhm 20 rfl (decide_eq_true ((by omega))) ?_
    refine V6 ?_
    refine rx2 (Zhb rfl (Zg9 rfl (Zg7))) ?_
    exact ⟨_, .inr ⟨by omega, rfl, rfl⟩, (Imp.arr qV).trans hback⟩
  · rw [if_neg hz]
    have hok : PagerS.Ok (PagerS.freshP key round window.toNat h.pages (h.size - 28)) := PagerS.ok_fresh hk (by omega) (by omega) (by omega)
    refine fn_x Tryz.func39 rfl rfl rfl Tryz.mixed (by kernel_rfl) ?_
    intro w0
    refine Y1 ?_
    refine Zh5 rfl ?_; intro b5
    refine Y5 ?_
    refine Zhg (Zbn (b := 2) rfl rfl) ?_
    refine Zhn 11 rfl (decide_eq_false (hw1)) ?_
    refine Y2 ?_
    first|refine Y0 ?_|(refine Zhh rfl ?_; (refine Zhg (Zbp (b := 16) rfl rfl) ?_))
    refine Zhn 14 rfl (decide_eq_false (hw2)) ?_
    refine Y8 ?_
    refine Zhg (Zbn (a := (h.size : Int)) (b := 29) rfl rfl) ?_
    refine Zhn 20 rfl (decide_eq_false ((by omega))) ?_
    refine V2 ?_
    have e0 : window = ((window.toNat : Nat) : Int) := by omega
    refine Ct.o ?_
    refine Zij ((cl b5 (key.map u8b).toArray 23 :: refL q h fl wl fa fc wa wc la lc)) [7, 11, 12] (.q 0 (.q 2 (.q 3 (.q 4 (.q 5 (.q 6 (.q 8 (.q 9 (.q 10 (.r 1 (.r 7 (.r 11 (.r 12 (.q 13 (.e 14 false (.q 15 (.q 16 .nil))))))))))))))))) (by kernel_rfl) (by kernel_rfl) (Imp.arr qV) ?_
    refine W12 ?_
    refine Ziz rfl (Zmb (b := 28) rfl rfl (by omega) (by omega)) ?_
    refine Zim rfl (Zdm (cs := ((hp q :: key.map u8b) ++ rtailN round window h.pages (h.size - 28)).toArray) (rnewp_fill hk rfl rfl rfl rfl rfl rfl)) ?_
    refine Ziq rfl ?_
    refine Zh5 rfl ?_; intro b35
    refine Zg3 ⟨(fun hh => Bool.noConfusion hh), ?_⟩
    refine W3 ?_
    refine Ct.o ?_
    have ec : ((hp q :: key.map u8b) ++ rtailN round window h.pages (h.size - 28)).toArray = rpcl (PagerS.freshP key round window.toNat h.pages (h.size - 28)) ⟨q, none, 0, 0, none, 0, 0, false⟩ := by
      unfold rpcl
      show ((hp q :: key.map u8b) ++ rtailN round window h.pages (h.size - 28)).toArray = ((hp q :: key.map u8b) ++ [u64b round, nvv window.toNat, .int .i64 h.pages, nvv (h.size - 28), .slice none 0 0, .slice none 0 0, nvv 0, nvv 0, nvv 0, .bool false]).toArray
      show ((hp q :: key.map u8b) ++ [u64b round, .int .i64 window, .int .i64 h.pages, nvv (h.size - 28), .slice none 0 0, .slice none 0 0, .int .i64 0, .int .i64 0, .int .i64 0, .bool false]).toArray = ((hp q :: key.map u8b) ++ [u64b round, .int .i64 ((window.toNat : Nat) : Int), .int .i64 h.pages, nvv (h.size - 28), .slice none 0 0, .slice none 0 0, nvv 0, nvv 0, nvv 0, .bool false]).toArray
      rw [← e0]; rfl
    rw [ec]
    refine rx2 (Zhb rfl (Zg9 rfl (Zg7))) ?_
    refine ⟨_, .inl ⟨rfl, b35, rfl, rfl⟩, ?_⟩
    have hkk : RpOk (PagerS.freshP key round window.toNat h.pages (h.size - 28)) ⟨q, none, 0, 0, none, 0, 0, false⟩ [] [] := ⟨hok, rfl, rfl, rfl, fun _ => rfl, Nat.le_refl _⟩
    have hb2 : Imp (cl b35 (rpcl (PagerS.freshP key round window.toNat h.pages (h.size - 28)) ⟨q, none, 0, 0, none, 0, 0, false⟩) 126 :: refL q h fl wl fa fc wa wc la lc) [cl b35 (rpcl (PagerS.freshP key round window.toNat h.pages (h.size - 28)) ⟨q, none, 0, 0, none, 0, 0, false⟩) 126, refA q h fl] := Imp.cons (by simpa using hback)
    have h1 : Imp [cl b35 (rpcl (PagerS.freshP key round window.toNat h.pages (h.size - 28)) ⟨q, none, 0, 0, none, 0, 0, false⟩) 126, refA q h fl] [rpA b35 q (PagerS.freshP key round window.toNat h.pages (h.size - 28)), refA q h fl] :=
      (((Imp.own_nil (E := 129) (size := 3)).trans (Imp.own_nil (E := 150) (size := 4))).trans (star_nil (A := rtA))).trans ((Imp.arr (N := rpL b35 (PagerS.freshP key round window.toNat h.pages (h.size - 28)) ⟨q, none, 0, 0, none, 0, 0, false⟩ [] [] ++ [refA q h fl]) qV).trans (rpA_mk hkk rfl))
    exact (Imp.arr qV).trans (hb2.trans h1)
theorem rpnew_ok {key : List Byte} (hk : key.length = 32) (round : BitVec 64) {window : Int} (hz : newR h window = 0) : Con Tryz.prog 39 [hp q, .agg (key.map u8b).toArray, u64b round, .int .i64 window] [refA q h fl] (fun r M => ∃ p, r = .tuple #[hp p, nvv 0] ∧ M = [rpA p q (PagerS.freshP key round window.toNat h.pages (h.size - 28)), refA q h fl]) :=
  (rpnew_x hk round window).mono fun r M hh => by
    rcases hh with ⟨_, p, h1, h2⟩|⟨hn, _⟩
    · exact ⟨M, Imp.refl _, p, h1, h2⟩
    · exact absurd hz hn
theorem rpnew_no {key : List Byte} (hk : key.length = 32) (round : BitVec 64) {window : Int} (hz : newR h window ≠ 0) : Con Tryz.prog 39 [hp q, .agg (key.map u8b).toArray, u64b round, .int .i64 window] [refA q h fl] (fun r M => r = .tuple #[.pointer none, nvv (newR h window)] ∧ M = [refA q h fl]) :=
  (rpnew_x hk round window).mono fun r M hh => by
    rcases hh with ⟨hn, _⟩|⟨_, h1, h2⟩
    · exact absurd hn hz
    · exact ⟨M, Imp.refl _, h1, h2⟩
end
end Go.Sl

/- the document's pager (trystref13): Load of a page that was written, walked. -/
set_option maxHeartbeats 4000000
set_option maxRecDepth 10000
set_option linter.unusedVariables false
set_option linter.unusedSimpArgs false
namespace Go.Sl
open Go Go.Proofs
attribute [local irreducible] pt pur ex all den denOps denS xOps xC cX CX xthen xblk xcut xloop xng retX resX Calls PV Rd Con
theorem ref_ok {q : Nat} {s : HostS.HS} {fl : List HostS.Fault} {M M' : List Asrt} {F : Asrt} {w0 w : World} (hm : Has M (refA q s fl) M') (H : St w0 w (F :: M)) : HostS.Ok s := by
  have H := H.pick (.there hm)
  unfold refA at H
  obtain ⟨t, H⟩ := H.ex_get
  exact (St.pur_get (St.all_get H)).ok
attribute [local irreducible] hostA refA rpcl pcl pgSealB pgOpenR HostS.writeR HostS.readR PagerS.roomP PagerS.useP usedH
open PagerS (PS Over)
section
variable {p q : Nat} {s : PS} {h : HostS.HS} {fl : List HostS.Fault}
theorem rload_old {c : RC} {hl : List HE} {wl : List Plc} (hk : RpOk s c hl wl) (hq : c.q = q) (hov : Over s h) (hops : h.ops + 1 < 3518437208880) (hw : s.writes < 4294967295) (he : s.err = 0) {n : Int} (hpn : 0 ≤ n ∧ n < s.pages) (hno : ∀ e ∈ hl, e.2.page ≠ n) (hz : (PagerS.roomP s h).1 = 0) {pl : Plc} (hla : (PagerS.roomP s h).2.1.last n = some pl) :
    Con Tryz.prog 40 [hp p, .int .i64 n] (rpL p s c hl wl ++ [refA q h fl]) (fun r M => ∃ a c2, r = .tuple #[.slice a (PagerS.fetchP (PagerS.roomP s h).2.1 (PagerS.roomP s h).2.2 n).1.1.length c2, nvv (PagerS.fetchP (PagerS.roomP s h).2.1 (PagerS.roomP s h).2.2 n).1.2] ∧ M = [ownB a c2 (PagerS.fetchP (PagerS.roomP s h).2.1 (PagerS.roomP s h).2.2 n).1.1, rpA p q (PagerS.fetchP (PagerS.roomP s h).2.1 (PagerS.roomP s h).2.2 n).2.1, refA q (PagerS.fetchP (PagerS.roomP s h).2.1 (PagerS.roomP s h).2.2 n).2.2 fl]) := by
  have hkey := hk.ok.key
  have hl16 := hk.len
  have hback : Imp (rpL p s c hl wl ++ [refA q h fl]) [rpA p q s, refA q h fl] := rpA_mk hk hq
  have hroom := rroom_x (p := p) (q := q) (fl := fl) hov (by omega) hw
  obtain ⟨w1, w2, w3, w4, w5, w6⟩ := roomP_same (h := h) hk.ok
  obtain ⟨ro1, ro2⟩ := roomP_over hov
  have hops1 : (PagerS.roomP s h).2.2.ops < 3518437208880 := by omega
  have w7 := w6 hz
  simp only [List.cons_append, List.nil_append] at hback ⊢
  refine fn_x Tryz.func40 rfl rfl rfl Tryz.mixed (by kernel_rfl) ?_
  intro w0
  refine Y8 ?_
  refine Zhp rfl qH (rp_f hkey (k := 8) rfl) ?_
  refine Y1 ?_
  refine Zhn 18 rfl (decide_eq_false ((fun hh => hh he))) ?_
  refine Y4 ?_
  refine Zhg (Zbn (b := 0) rfl rfl) ?_
  refine Zhn 24 rfl (decide_eq_false ((show ¬ n < 0 by omega))) ?_
  refine Y5 ?_
  first|refine Y0 ?_|(refine Zhh rfl ?_; (refine Zhp rfl qH (rp_f hkey (k := 2) rfl) ?_))
  refine Y1 ?_
  refine Zhn 31 rfl (decide_eq_false ((show ¬ s.pages ≤ n by omega))) ?_
  refine Y6 ?_
  refine Zh8 rfl (by kernel_rfl) (rfind_no hkey (by omega) hk.hn hno) rfl qT ?_
  rintro _ _ ⟨rfl, rfl⟩
  refine Y5 ?_
  refine Zhg (Zbq (a := -1) (b := 0) rfl rfl) ?_
  refine Zhn 37 rfl (decide_eq_false ((show ¬ (-1 : Int) ≥ 0 by omega))) ?_
  refine V2 ?_
  refine Zgp ((Imp.arr (N := cl p (rpcl s c) 126 :: ownH c.ha c.hc hl :: ownW c.la c.lc wl :: star rtA hl :: [refA q h fl]) qV).trans hback) ?_
  refine Y2 ?_
  refine Zh8 rfl (by kernel_rfl) (hroom) rfl qT ?_
  rintro _ _ ⟨rfl, rfl⟩
  refine Y6 ?_
  refine Zhn 54 rfl (decide_eq_false ((fun hh => hh hz))) ?_
  refine V2 ?_
  generalize (PagerS.roomP s h).2.1 = s2 at *
  generalize (PagerS.roomP s h).2.2 = h2 at *
  refine x_rpA fun c2 hl2 wl2 hk2 hq2 => ?_
  simp only [List.cons_append, List.nil_append]
  have hkey2 := hk2.ok.key
  have hsz := rp_size (s := s2) (c := c2) hkey2
  have ht2 := hk2.ok.t1
  have hfi : wl2.find? (isPg n) = some pl := by rw [← hk2.last]; exact hla
  have hpl := rplace_x (p := p) (s := s2) (c := c2) (wl := wl2) hkey2 (by have := hk2.ok.writes; have := hk2.many; omega) hk2.ln n
  rw [hfi] at hpl
  refine Zgt (fun F w H => ref_ok qH H) ?_
  intro hho
  have herr := readR_err2 h2 n
  refine Y4 ?_
  refine Zhp rfl qH (rp_f hkey2 (k := 3) rfl) ?_
  refine Zm3 (f := u8b) (a := 0#8) rfl rfl rfl qS qS qS ?_; intro b60
  refine Y5 ?_
  refine Zh8 rfl (by kernel_rfl) (hpl) rfl qT ?_
  rintro _ _ ⟨rfl, rfl⟩
  refine Y4 ?_
  refine Zhz (cs := #[u64b 0#64, u32b 0#32, u32b 0#32, u32b 0#32]) rfl ?_; intro b10
  first|refine Zhy rfl rfl qR qZ (by first|rfl|exact oneM_u8 _|exact oneL_u8 _|exact rhe_one _|exact wpc_one _|assumption|(simp [oneC]; done)) qZ ?_|refine Zhx rfl rfl qR qZ (by first|rfl|exact oneM_u8 _|exact oneL_u8 _|exact rhe_one _|exact wpc_one _|assumption|(simp [oneC]; done)) qZ rfl ?_
  refine V6 ?_
  subst hq2
  refine Y4 ?_
  refine Zhp rfl qH (rp_st) ?_
  refine Y1 ?_
  refine Zh8 rfl (by kernel_rfl) (ra_read n hops1) rfl qT ?_
  rintro _ _ ⟨xa, xc, rfl, rfl⟩
  refine V11 ?_
  by_cases h0 : (HostS.readR h2 n).2.1 = 0
  · have hbl := readR_len hho h0
    have hz2 := ro1.size
    have hhz := hho.z1
    have hro := readR_ps h2 n
    have hop := fun xa xc => pgOpenRef_x (L := [ownB xa xc (HostS.readR h2 n).1]) s2.key hkey2 pl (box := (HostS.readR h2 n).1) (Bs.own .here) (by omega)
    refine Y3 ?_
    refine Zhm 79 rfl (decide_eq_true (h0)) ?_
    refine V2 ?_
    refine Zij ([cl p (rpcl s2 c2) 126, cl b10 (plc pl) 108]) [4] (.q 0 (.q 1 (.q 2 (.q 5 (.r 3 (.r 4 (.e 6 false (.q 7 (.q 8 (.q 9 (.q 10 (.q 11 .nil)))))))))))) (by kernel_rfl) (by kernel_rfl) (Imp.arr qV) ?_
    refine W4 ?_
    refine Zix (n := 32) rfl rfl qH qZ (rp_key hkey2) ?_
    refine W1 ?_
    refine Ziq rfl ?_
    refine Zh8 rfl (by kernel_rfl) (hop xa xc) rfl qT ?_
    rintro _ _ ⟨ya, yc, rfl, rfl⟩
    refine Y1 ?_
    refine Zg3 ⟨(fun hh => Bool.noConfusion hh), ?_⟩
    refine W6 ?_
    refine Ct.o ?_
    by_cases h3 : (pgOpenR s2.key pl (HostS.readR h2 n).1).2 = 0
    · have e : PagerS.fetchP s2 h2 n = (((pgOpenR s2.key pl (HostS.readR h2 n).1).1, 0), PagerS.useP s2 ⟨n, (pgOpenR s2.key pl (HostS.readR h2 n).1).1, 1⟩, (HostS.readR h2 n).2.2) := by
        unfold PagerS.fetchP
        rw [hla]
        dsimp only
        rw [if_pos h0, if_pos h3]
      rw [e]
      have hot : (pgOpenR s2.key pl (HostS.readR h2 n).1).1.length = s2.text := by
        have := pg_form s2.key pl (HostS.readR h2 n).1 (by
          by_cases hh : pgOpens s2.key pl (HostS.readR h2 n).1
          · exact hh
          · rw [pgOpenR_not _ _ _ hh] at h3; cases h3)
        omega
      refine Y3 ?_
      refine Zhn 91 rfl (decide_eq_false ((fun hh => hh h3))) ?_
      refine V2 ?_
      obtain ⟨q2, ha2, hn2, hc2, la2, ln2, lc2, took2⟩ := c2
      cases took2 with
      | true =>
        refine Y5 ?_
        refine Zhp rfl qH (rp_f hkey2 (k := 9) rfl) ?_
        refine Y1 ?_
        refine Zhm 102 rfl (rfl) ?_
        refine Y12 ?_
        refine Zhu rfl rfl qR qZ (rp_s (s := s2) (c := ⟨q2, ha2, hn2, hc2, la2, ln2, lc2, true⟩) (s' := s2) (c' := ⟨q2, ha2, hn2, hc2, la2, ln2, lc2, true⟩) hkey2 (k := 9) rfl rfl rfl) ?_
        refine Y5 ?_
        refine Zhg (Zdm (cs := (rhe ((ya, yc), ⟨n, (pgOpenR s2.key pl (HostS.readR h2 n).1).1, 1⟩)).toArray) (by kernel_rfl)) ?_
        refine Zh8 rfl (by kernel_rfl) (rp_useL (p := p) (hk2) ((ya, yc), ⟨n, (pgOpenR s2.key pl (HostS.readR h2 n).1).1, 1⟩) (.inr (by omega)) (by rw [w2]; exact hpn) hot (by show 1 ≤ 2; omega)) rfl qT ?_
        rintro _ _ ⟨c', hk', hq', rfl⟩
        refine Y4 ?_
        refine Zh8 rfl (by kernel_rfl) (copyBytes_x (L := [star rtA (usedH hl2 ((ya, yc), ⟨n, (pgOpenR s2.key pl (HostS.readR h2 n).1).1, 1⟩))]) (l := (pgOpenR s2.key pl (HostS.readR h2 n).1).1) (usedH_bs .here) (by omega)) rfl qT ?_
        rintro _ _ ⟨a3, c3, rfl, rfl⟩
        refine V4 ?_
        refine rx2 (Zhc rfl (Zg9 rfl (Zg7))) ?_
        refine ⟨_, ⟨a3, c3, rfl, rfl⟩, ?_⟩
        have h9 := rpA_mk (p := p) (L := [refA q2 (HostS.readR h2 n).2.2 fl]) hk' hq'
        simp only [List.cons_append, List.nil_append] at h9
        exact (Imp.arr (N := ownB a3 c3 (pgOpenR s2.key pl (HostS.readR h2 n).1).1 :: (rpL p (PagerS.useP s2 ⟨n, (pgOpenR s2.key pl (HostS.readR h2 n).1).1, 1⟩) c' (usedH hl2 ((ya, yc), ⟨n, (pgOpenR s2.key pl (HostS.readR h2 n).1).1, 1⟩)) wl2 ++ [refA q2 (HostS.readR h2 n).2.2 fl])) qV).trans (Imp.cons h9)
      | false =>
        have htk : RpOk s2 ⟨q2, ha2, hn2, hc2, la2, ln2, lc2, !(decide ((HostS.readR h2 n).1 = HostS.liesR (HostS.readR h2 n).2.2 n))⟩ hl2 wl2 := ⟨hk2.ok, hk2.held, hk2.hn, hk2.ln, hk2.last, hk2.many⟩
        refine Y5 ?_
        refine Zhp rfl qH (rp_f hkey2 (k := 9) rfl) ?_
        refine Y1 ?_
        refine Zhn 102 rfl (rfl) ?_
        refine Y4 ?_
        first|refine Y0 ?_|(refine Zhh rfl ?_; (refine Zhp rfl qH (rp_st) ?_))
        refine Y1 ?_
        first|refine Y0 ?_|(refine Zhh rfl ?_; (refine Zh8 rfl (by kernel_rfl) (ra_lies (s := (HostS.readR h2 n).2.2) (fl := fl) n (by omega)) rfl qT ?_); (rintro _ _ ⟨za, zc, rfl, rfl⟩); (refine Zg2 qA ?_))
        first|refine Y0 ?_|(refine Zhh rfl ?_; (refine Zh8 rfl (by kernel_rfl) (eqBytes_x (L := [ownB xa xc (HostS.readR h2 n).1, ownB za zc (HostS.liesR (HostS.readR h2 n).2.2 n)]) (Bs.own .here) (Bs.own (.there .here))) rfl qT ?_); (rintro _ _ ⟨rfl, rfl⟩); (refine Zg2 qA ?_))
        first|refine Y0 ?_|(refine Zhh rfl ?_; (refine Zhg (Zb0 rfl) ?_))
        refine Y3 ?_
        refine Zhu rfl rfl qR qZ (rp_s (s := s2) (c := ⟨q2, ha2, hn2, hc2, la2, ln2, lc2, false⟩) (s' := s2) (c' := ⟨q2, ha2, hn2, hc2, la2, ln2, lc2, !(decide ((HostS.readR h2 n).1 = HostS.liesR (HostS.readR h2 n).2.2 n))⟩) hkey2 (k := 9) rfl rfl rfl) ?_
        refine Y5 ?_
        refine Zhg (Zdm (cs := (rhe ((ya, yc), ⟨n, (pgOpenR s2.key pl (HostS.readR h2 n).1).1, 1⟩)).toArray) (by kernel_rfl)) ?_
        refine Zh8 rfl (by kernel_rfl) (rp_useL (p := p) (htk) ((ya, yc), ⟨n, (pgOpenR s2.key pl (HostS.readR h2 n).1).1, 1⟩) (.inr (by omega)) (by rw [w2]; exact hpn) hot (by show 1 ≤ 2; omega)) rfl qT ?_
        rintro _ _ ⟨c', hk', hq', rfl⟩
        refine Y4 ?_
        refine Zh8 rfl (by kernel_rfl) (copyBytes_x (L := [star rtA (usedH hl2 ((ya, yc), ⟨n, (pgOpenR s2.key pl (HostS.readR h2 n).1).1, 1⟩))]) (l := (pgOpenR s2.key pl (HostS.readR h2 n).1).1) (usedH_bs .here) (by omega)) rfl qT ?_
        rintro _ _ ⟨a3, c3, rfl, rfl⟩
        refine V4 ?_
        refine rx2 (Zhc rfl (Zg9 rfl (Zg7))) ?_
        refine ⟨_, ⟨a3, c3, rfl, rfl⟩, ?_⟩
        have h9 := rpA_mk (p := p) (L := [refA q2 (HostS.readR h2 n).2.2 fl]) hk' hq'
        simp only [List.cons_append, List.nil_append] at h9
        exact (Imp.arr (N := ownB a3 c3 (pgOpenR s2.key pl (HostS.readR h2 n).1).1 :: (rpL p (PagerS.useP s2 ⟨n, (pgOpenR s2.key pl (HostS.readR h2 n).1).1, 1⟩) c' (usedH hl2 ((ya, yc), ⟨n, (pgOpenR s2.key pl (HostS.readR h2 n).1).1, 1⟩)) wl2 ++ [refA q2 (HostS.readR h2 n).2.2 fl])) qV).trans (Imp.cons h9)
    · have e : PagerS.fetchP s2 h2 n = (([], (pgOpenR s2.key pl (HostS.readR h2 n).1).2), PagerS.die s2 (pgOpenR s2.key pl (HostS.readR h2 n).1).2, (HostS.readR h2 n).2.2) := by
        unfold PagerS.fetchP
        rw [hla]
        dsimp only
        rw [if_pos h0, if_neg h3]
      rw [e]
      have hbig : (pgOpenR s2.key pl (HostS.readR h2 n).1).2 ≤ 1000 := by
        with_unfolding_all unfold pgOpenR
        split <;> simp
      refine Y3 ?_
      refine Zhm 91 rfl (decide_eq_true (h3)) ?_
      refine Y7 ?_
      refine Zht rfl rfl qR qZ (rp_s (s := s2) (c := c2) (s' := PagerS.die s2 (pgOpenR s2.key pl (HostS.readR h2 n).1).2) (c' := c2) hkey2 (k := 8) rfl rfl rfl) ?_
      refine V6 ?_
      refine rx2 (Zhc rfl (Zg9 rfl (Zg7))) ?_
      have h9 := rpA_mk (p := p) (L := [refA c2.q (HostS.readR h2 n).2.2 fl]) (rp_die hk2 hbig) rfl
      exact ⟨_, ⟨none, 0, rfl, rfl⟩, ((Imp.arr qV).trans h9).trans Imp.own_nil⟩
  · have e : PagerS.fetchP s2 h2 n = (([], (HostS.readR h2 n).2.1), PagerS.die s2 (HostS.readR h2 n).2.1, (HostS.readR h2 n).2.2) := by
      unfold PagerS.fetchP
      rw [hla]
      dsimp only
      rw [if_neg h0]
    rw [e]
    refine Y3 ?_
    refine Zhn 79 rfl (decide_eq_false (h0)) ?_
    refine Y5 ?_
    refine Zhm 91 rfl (decide_eq_true (h0)) ?_
    refine Y7 ?_
    refine Zht rfl rfl qR qZ (rp_s (s := s2) (c := c2) (s' := PagerS.die s2 (HostS.readR h2 n).2.1) (c' := c2) hkey2 (k := 8) rfl rfl rfl) ?_
    refine V6 ?_
    refine rx2 (Zhc rfl (Zg9 rfl (Zg7))) ?_
    have h9 := rpA_mk (p := p) (L := [refA c2.q (HostS.readR h2 n).2.2 fl]) (rp_die hk2 herr) rfl
    exact ⟨_, ⟨none, 0, rfl, rfl⟩, ((Imp.arr qV).trans h9).trans Imp.own_nil⟩
end
end Go.Sl

/- the document's pager (trystref13): Load, joined; Numbers, Flush, walked. -/
set_option maxHeartbeats 4000000
set_option maxRecDepth 10000
set_option linter.unusedVariables false
set_option linter.unusedSimpArgs false
namespace Go.Sl
open Go Go.Proofs
attribute [local irreducible] pt pur ex all den denOps denS xOps xC cX CX xthen xblk xcut xloop xng retX resX Calls PV Rd Con
attribute [local irreducible] hostA refA rpcl pcl pgSealB pgOpenR HostS.writeR HostS.readR PagerS.roomP PagerS.useP usedH
open PagerS (PS Over)
section
variable {p q : Nat} {s : PS} {h : HostS.HS} {fl : List HostS.Fault}
theorem rload_x (hov : Over s h) (hops : h.ops + 1 < 3518437208880) (hw : s.writes < 4294967295) (n : Int) :
    Con Tryz.prog 40 [hp p, .int .i64 n] [rpA p q s, refA q h fl] (fun r M => ∃ a c, r = .tuple #[.slice a (PagerS.loadP s h n).1.1.length c, nvv (PagerS.loadP s h n).1.2] ∧ M = [ownB a c (PagerS.loadP s h n).1.1, rpA p q (PagerS.loadP s h n).2.1, refA q (PagerS.loadP s h n).2.2 fl]) := by
  refine Con.rpA fun c hl wl hk hq => ?_
  have hkey := hk.ok.key
  have hl16 := hk.len
  have hback : Imp (rpL p s c hl wl ++ [refA q h fl]) [rpA p q s, refA q h fl] := rpA_mk hk hq
  by_cases he : s.err = 0
  case neg =>
    have e : PagerS.loadP s h n = (([], s.err), s, h) := by
      have er : PagerS.rightP s n = s.err := by unfold PagerS.rightP; rw [if_pos he]
      unfold PagerS.loadP; rw [er, if_neg he]
    rw [e]
    simp only [List.cons_append, List.nil_append] at hback ⊢
    refine fn_x Tryz.func40 rfl rfl rfl Tryz.mixed (by kernel_rfl) ?_
    intro w0
    refine Y8 ?_
    refine Zhp rfl qH (rp_f hkey (k := 8) rfl) ?_
    refine Y1 ?_
    refine Zhm 18 rfl (decide_eq_true (he)) ?_
    refine V2 ?_
    refine Zij (_) [] (.q 0 (.q 1 (.q 2 (.q 4 (.r 3 (.q 5 .nil)))))) (by kernel_rfl) (by kernel_rfl) (Imp.refl _) ?_
    refine W4 ?_
    refine Ziv rfl rfl qH (rp_f hkey (k := 8) rfl) ?_
    refine W2 ?_
    refine Ct.o ?_
    refine rx2 (Zhc rfl (Zg9 rfl (Zg7))) ?_
    exact ⟨_, ⟨none, 0, rfl, rfl⟩, ((Imp.arr qV).trans hback).trans Imp.own_nil⟩
  case pos =>
    by_cases hpn : 0 ≤ n ∧ n < s.pages
    case neg =>
      have e : PagerS.loadP s h n = (([], 2), s, h) := by
        have er : PagerS.rightP s n = 2 := by unfold PagerS.rightP; rw [if_neg (fun hh => hh he), if_pos (by omega)]
        unfold PagerS.loadP; rw [er]; rfl
      rw [e]
      simp only [List.cons_append, List.nil_append] at hback ⊢
      by_cases h0 : n < 0
      · refine fn_x Tryz.func40 rfl rfl rfl Tryz.mixed (by kernel_rfl) ?_
        intro w0
        refine Y8 ?_
        refine Zhp rfl qH (rp_f hkey (k := 8) rfl) ?_
        refine Y1 ?_
        refine Zhn 18 rfl (decide_eq_false ((fun hh => hh he))) ?_
        refine Y4 ?_
        refine Zhg (Zbn (b := 0) rfl rfl) ?_
        refine Zhm 24 rfl (decide_eq_true (h0)) ?_
        refine V14 ?_
        refine rx2 (Zhc rfl (Zg9 rfl (Zg7))) ?_
        exact ⟨_, ⟨none, 0, rfl, rfl⟩, ((Imp.arr qV).trans hback).trans Imp.own_nil⟩
      · refine fn_x Tryz.func40 rfl rfl rfl Tryz.mixed (by kernel_rfl) ?_
        intro w0
        refine Y8 ?_
        refine Zhp rfl qH (rp_f hkey (k := 8) rfl) ?_
        refine Y1 ?_
        refine Zhn 18 rfl (decide_eq_false ((fun hh => hh he))) ?_
        refine Y4 ?_
        refine Zhg (Zbn (b := 0) rfl rfl) ?_
        refine Zhn 24 rfl (decide_eq_false (h0)) ?_
        refine Y5 ?_
        first|refine Y0 ?_|(refine Zhh rfl ?_; (refine Zhp rfl qH (rp_f hkey (k := 2) rfl) ?_))
        refine Y1 ?_
        refine Zhm 31 rfl (decide_eq_true ((show s.pages ≤ n by omega))) ?_
        refine V7 ?_
        refine rx2 (Zhc rfl (Zg9 rfl (Zg7))) ?_
        exact ⟨_, ⟨none, 0, rfl, rfl⟩, ((Imp.arr qV).trans hback).trans Imp.own_nil⟩
    case pos =>
      have er : PagerS.rightP s n = 0 := by unfold PagerS.rightP; rw [if_neg (fun hh => hh he), if_neg (by omega)]
      by_cases hin : ∃ e ∈ hl, e.2.page = n
      · refine (Con.frame (L := [refA q h fl]) (rload_held hk he hpn hin)).mono ?_
        rintro r M ⟨M', ⟨i, hi, rfl, a, c2, hr, rfl⟩, rfl⟩
        have e : PagerS.loadP s h hl[i].2.page = ((hl[i].2.text, 0), PagerS.useP s hl[i].2, h) := by
          unfold PagerS.loadP; rw [if_pos er, hk.fr hi]
        rw [e, ← hq]
        exact ⟨_, Imp.refl _, a, c2, hr, rfl⟩
      · have hno : ∀ e ∈ hl, e.2.page ≠ n := fun e h1 h2 => hin ⟨e, h1, h2⟩
        have hf := rp_frOf hk hno
        by_cases hz : (PagerS.roomP s h).1 = 0
        · have e : PagerS.loadP s h n = PagerS.fetchP (PagerS.roomP s h).2.1 (PagerS.roomP s h).2.2 n := by
            unfold PagerS.loadP; rw [if_pos er, hf]; dsimp only; rw [if_pos hz]
          rw [e]
          cases hla : (PagerS.roomP s h).2.1.last n with
          | some pl => exact rload_old hk hq hov hops hw he hpn hno hz hla
          | none =>
            obtain ⟨w1, w2, w3, w4, w5, w6⟩ := roomP_same (h := h) hk.ok
            have e2 : PagerS.fetchP (PagerS.roomP s h).2.1 (PagerS.roomP s h).2.2 n = ((List.replicate s.text 0#8, 0), PagerS.useP (PagerS.roomP s h).2.1 ⟨n, List.replicate s.text 0#8, 0⟩, (PagerS.roomP s h).2.2) := by
              unfold PagerS.fetchP; rw [hla, w3]
            rw [e2]
            exact rload_new hk hq hov (by omega) hw he hpn hno hz hla
        · have e : PagerS.loadP s h n = (([], (PagerS.roomP s h).1), (PagerS.roomP s h).2) := by
            unfold PagerS.loadP; rw [if_pos er, hf]; dsimp only; rw [if_neg hz]
          rw [e]
          exact (rload_full hk hq hov (by omega) hw he hpn hno hz).mono fun r M ⟨h1, h2⟩ => ⟨_, Imp.own_nil (E := 5) (size := 1), none, 0, h1, by rw [h2]; rfl⟩
end
end Go.Sl

/- the document's pager (trystref13): Numbers, New, walked. -/
set_option maxHeartbeats 4000000
set_option maxRecDepth 10000
set_option linter.unusedVariables false
set_option linter.unusedSimpArgs false
namespace Go.Sl
open Go Go.Proofs
attribute [local irreducible] pt pur ex all den denOps denS xOps xC cX CX xthen xblk xcut xloop xng retX resX Calls PV Rd Con
attribute [local irreducible] hostA refA rpcl pcl pgSealB pgOpenR HostS.writeR HostS.readR PagerS.roomP PagerS.useP usedH
open PagerS (PS Over)
section
variable {p q : Nat} {s : PS} {h : HostS.HS} {fl : List HostS.Fault}
abbrev hpages (l : List HE) : List Int := l.map fun e => e.2.page
theorem rp_numbers {c : RC} {hl : List HE} {wl : List Plc} (hk : RpOk s c hl wl) : PagerS.numbers s = hpages hl := by unfold PagerS.numbers hpages; rw [hk.held, List.map_map]; rfl
theorem rnumbers_x : Con Tryz.prog 71 [hp p] [rpA p q s] (fun r M => ∃ a c, r = .slice a (PagerS.numbers s).length c ∧ M = [ownI a c (PagerS.numbers s), rpA p q s]) := by
  refine Con.rpA fun c hl wl hk hq => ?_
  have hkey := hk.ok.key
  have hl16 := hk.len
  have hback : Imp (rpL p s c hl wl ++ []) [rpA p q s] := rpA_mk hk hq
  rw [rp_numbers hk]
  obtain ⟨q', ha, hn, hc, la, ln, lc, took⟩ := c
  have hhn := hk.hn
  dsimp only at hhn
  subst hhn
  simp only [List.cons_append, List.nil_append] at hback ⊢
  refine fn_x Tryz.func71 rfl rfl rfl Tryz.mixed (by kernel_rfl) ?_
  intro w0
  refine V9 ?_
  refine Zgo [(3, 24)] (by kernel_rfl) (fun t : Nat × Option Addr × Nat => t.1 ≤ hl.length) (fun t => ownI t.2.1 t.2.2 (hpages (hl.take t.1)) :: rpL p s ⟨q', ha, hl.length, hc, la, ln, lc, took⟩ hl wl) (fun t => [(3, .slice t.2.1 (hpages (hl.take t.1)).length t.2.2), (4, nvv t.1)]) (fun t => hl.length - t.1) (0, none, 0) (Nat.zero_le _) (Imp.own_nil (E := 3) (size := 1)) ⟨rfl, rfl, trivial⟩ ?_
  rintro ⟨i, a5, c5⟩ u hi
  dsimp only at hi ⊢
  refine Y5 ?_
  refine Zhp rfl qH (rp_f hkey (k := 4) rfl) ?_
  refine V3 ?_
  refine Zgg rfl (fun hB => ?_) (fun hB => ?_)
  · replace hB : i < hl.length := hB
    refine Zgt (fun F w H => own_someN (n := hl.length) (a := ha) (.there (.there .here)) (by omega) H) ?_
    rintro ⟨g, rfl⟩
    have e1 : hpages (hl.take (i + 1)) = hpages (hl.take i) ++ [hl[i].2.page] := by unfold hpages; rw [List.take_succ_eq_append_getElem hB, List.map_append]; rfl
    have hle : (hpages (hl.take i)).length ≤ i := by simp [hpages]; omega
    refine Ct.o ?_
    generalize hE : hpages (hl.take i) = E at *
    refine Y5 ?_
    refine Zhp rfl qH (rp_f hkey (k := 4) rfl) ?_
    refine Y3 ?_
    refine Zff rfl (((Rd.own (n := hl.length) (.there (.there .here))).atN0 (j := 0) rhe_len hB (by omega) rfl)) ?_
    refine Zh7 (cs := #[.int .i64 hl[i].2.page]) (by omega) (by omega) (by rfl) ?_; intro b23
    refine Zia rfl rfl qH (Rd.cl (xs := [.int .i64 hl[i].2.page]) qH rfl qZ rfl) (by first|rfl|exact oneM_u8 _|exact oneL_u8 _|exact rhe_one _|exact wpc_one _|assumption|(simp [oneC]; done)) (by omega) qS ?_; intro a6 c6
    refine V2 ?_
    have e2 : (E ++ [hl[i].2.page]).length = E.length + 1 := by simp
    have e3 : (E ++ [hl[i].2.page]).map (Value.int .i64) = E.map (Value.int .i64) ++ [.int .i64 hl[i].2.page] := by simp
    refine V5 ?_
    exact Zgl (i + 1, a6, c6) qO (by dsimp only; omega) (by dsimp only; rw [e1]; unfold ownI; rw [e2, e3]; exact qI) ⟨by dsimp only; rw [e1, e2]; rfl, rfl, trivial⟩
  · replace hB : ¬ i < hl.length := hB
    have hie : i = hl.length := by omega
    subst hie
    rw [List.take_length]
    refine V4 ?_
    refine rx1 (Zhc rfl (Zg7)) ?_
    exact ⟨_, ⟨a5, c5, rfl, rfl⟩, Imp.cons hback⟩
end
end Go.Sl

/- Apart: slices that do not share, walked. -/
set_option maxHeartbeats 4000000
set_option maxRecDepth 10000
set_option linter.unusedVariables false
set_option linter.unusedSimpArgs false
namespace Go.Sl
open Go Go.Proofs
attribute [local irreducible] pt pur ex all den denOps denS xOps xC cX CX xthen xblk xcut xloop xng retX resX Calls PV Rd Con
theorem vP_at {ps : List Part} {qs : List Part} {i : Nat} (hi : i < qs.length) (h : qs.map vP = ps.map vP) {a : Option Addr} {c : Nat} {l : List Byte} (hq : (a, c, l) = qs[i]) : (ps.map vP)[i]? = some (.slice a l.length c) := by
  rw [← h, List.getElem?_map, List.getElem?_eq_getElem hi, ← hq]; rfl
theorem vP_len {ps : List Part} {i n c : Nat} {a : Option Addr} (h : (ps.map vP)[i]? = some (.slice a n c)) {B : Nat} (hb : ∀ p ∈ ps, p.2.2.length ≤ B) : n ≤ B := by
  rw [List.getElem?_map] at h
  obtain ⟨p, hp, h⟩ := Option.map_eq_some_iff.mp h
  simp only [vP, Value.slice.injEq] at h
  have := hb p (List.mem_of_getElem? hp)
  omega
attribute [local irreducible] mkB
theorem apart_x {L : List Asrt} {va : Option Addr} {vc N : Nat} (ps : List Part) (hN : ps.length = N) (hNl : N ≤ 1048576) (hlen : ∀ p ∈ ps, p.2.2.length ≤ 140737488355000) (h : Rd L 1 (.slice va N vc) N (ps.map vP)) :
    Con Tryz.prog 48 [.slice va N vc] (star ownP ps :: L) (fun r M => r = .bool true ∧ L = M) := by
  refine fn_x Tryz.func48 rfl rfl rfl Tryz.mixed (by kernel_rfl) ?_
  intro w0
  refine V6 ?_
  refine Zgo [(3, 4), (11, 34)] (by kernel_rfl) (fun s : Nat × List Part => s.1 ≤ N ∧ s.2.map vP = ps.map vP ∧ ∀ k p, k < s.1 → s.2[k]? = some p → MkUp k p.2.2 p.2.2.length) (fun s => star ownP s.2 :: L) (fun s => [(3, ni s.1)]) (fun s => N - s.1) (0, ps) ⟨Nat.zero_le _, rfl, fun k p h => absurd h (Nat.not_lt_zero _)⟩ qI ⟨rfl, trivial⟩ ?_
  rintro ⟨i, qs⟩ u ⟨hi, hqv, hqm⟩
  dsimp only at hi hqv hqm ⊢
  have hql : qs.length = N := by rw [← List.length_map (f := vP), hqv, List.length_map, hN]
  refine V6 ?_
  refine Zgg rfl (fun hB => ?_) (fun hB => ?_)
  · have hiq : i < qs.length := by omega
    obtain ⟨⟨qa, qc, l⟩, hq⟩ : ∃ p, p = qs[i] := ⟨_, rfl⟩
    have hgi := vP_at hiq hqv hq
    have hll := vP_len hgi hlen
    refine Zgt (fun F w H => (h.imp qI).someAt (by omega) H) ?_
    rintro ⟨a1, a2, rfl⟩
    refine Zgp (star_at hiq) ?_
    rw [← hq]
    refine V3 ?_
    refine Zgo [(4, 4), (17, 34)] (by kernel_rfl) (fun s : Nat × List Byte => s.1 ≤ l.length ∧ s.2.length = l.length ∧ MkUp i s.2 s.1) (fun s => own 5 1 (.slice qa l.length qc) l.length (s.2.map u8b) :: star ownP (qs.eraseIdx i) :: L) (fun s => [(4, ni s.1)]) (fun s => l.length - s.1) (0, l) ⟨Nat.zero_le _, rfl, fun k h => absurd h (Nat.not_lt_zero _)⟩ (Imp.refl _) ⟨rfl, trivial⟩ ?_
    rintro ⟨j, x⟩ u2 ⟨hj, hxl, hxm⟩
    dsimp only at hj hxl hxm ⊢
    refine Y5 ?_
    refine Zff rfl ((h.imp qI).at hB hgi) ?_
    refine V3 ?_
    refine Zgg rfl (fun hA => ?_) (fun hA => ?_)
    · refine Zgt (fun F w H => own_some (a := qa) qH (by omega) H) ?_
      rintro ⟨g, rfl⟩
      refine Ct.o ?_
      refine Zij (_) [7] (.q 0 (.q 1 (.q 2 (.q 4 (.q 5 (.q 6 (.r 3 (.e 7 true (.q 8 (.e 9 false .nil)))))))))) (by kernel_rfl) (by kernel_rfl) (Imp.refl _) ?_
      refine W6 ?_
      refine Zfh rfl rfl ((h.imp qI).at hB hgi) ?_
      refine Ziq rfl ?_
      refine Zh8 rfl (by kernel_rfl) (mark_x i j (by omega) (by omega)) rfl qT ?_
      rintro _ _ ⟨rfl, rfl⟩
      refine Y1 ?_
      refine Zg3 ⟨fun _ => Imp.arr qV, ?_⟩
      refine W1 ?_
      refine Ziq rfl ?_; refine Zm7 (u := u8b (mkB i j)) (i := j) (xs := x.map u8b) (ys := (x.set j (mkB i j)).map u8b) rfl rfl rfl qR (by omega) (by rw [List.map_set]) ?_; refine Zg3 ⟨(fun hh => Bool.noConfusion hh), ?_⟩
      refine Zik ?_
      refine V5 ?_
      exact Zgl (j + 1, x.set j (mkB i j)) qO ⟨by dsimp only; omega, by simp [hxl], hxm.set (by omega)⟩ qI ⟨rfl, trivial⟩
    · have hje : j = l.length := by omega
      subst hje
      refine V5 ?_
      have e1 : vP (qa, qc, x) = vP qs[i] := by rw [← hq]; simp [vP, hxl]
      refine Zgl (i + 1, qs.set i (qa, qc, x)) qO ⟨by dsimp only; omega, ?_, ?_⟩ ?_ ⟨rfl, trivial⟩
      · dsimp only; rw [List.map_set, e1, ← List.map_set, List.set_getElem_self, hqv]
      · intro k p hk hp
        dsimp only at hk hp
        by_cases e : i = k
        · subst e
          rw [List.getElem?_set_self hiq] at hp
          obtain rfl := Option.some.inj hp
          dsimp only; rw [hxl]; exact hxm
        · rw [List.getElem?_set_ne e] at hp
          exact hqm k p (by omega) hp
      · dsimp only
        have := star_back (A := ownP) hiq (qa, qc, x) (M := L)
        refine Imp.trans ?_ this
        show Imp _ (own 5 1 (.slice qa x.length qc) x.length (x.map u8b) :: _)
        rw [hxl]
        exact qI
  · have hie : i = N := by omega
    subst hie
    have hqm2 : ∀ k p, qs[k]? = some p → MkUp k p.2.2 p.2.2.length := fun k p hp => hqm k p (by have := (List.getElem?_eq_some_iff.mp hp).1; omega) hp
    have hqb : ∀ (k : Nat) (a : Option Addr) (c : Nat) (l : List Byte), qs[k]? = some (a, c, l) → (ps.map vP)[k]? = some (.slice a l.length c) ∧ l.length ≤ 140737488355000 := fun k a c l hk => by
      obtain ⟨h1, h2⟩ := List.getElem?_eq_some_iff.mp hk
      have := vP_at h1 hqv h2.symm
      exact ⟨this, vP_len this hlen⟩
    refine V6 ?_
    refine Zgo [(5, 8), (35, 64)] (by kernel_rfl) (fun s : Nat × List Trip × Option Addr × Nat => s.1 ≤ qs.length ∧ s.2.1.length = s.1 ∧ ∀ k t, s.2.1[k]? = some t → qs[k]? = some t.1 ∧ Heir k 70 t.1 t.2.1 t.2.2) (fun s => own 33 1 (.slice s.2.2.1 s.1 s.2.2.2) s.1 (s.2.1.map fun t => vP t.2.1) :: star A2 s.2.1 :: star ownP (qs.drop s.1) :: L) (fun s => [(6, ni s.1), (5, .slice s.2.2.1 s.1 s.2.2.2)]) (fun s => qs.length - s.1) (0, [], none, 0) ⟨Nat.zero_le _, rfl, fun k t h => by simp at h⟩ (Imp.trans (star_nil (A := A2)) Imp.own_nil) ⟨rfl, rfl, trivial⟩ ?_
    rintro ⟨i, ds, ha, hc⟩ u2 ⟨hi, hdl, hdi⟩
    dsimp only at hi hdl hdi ⊢
    refine V6 ?_
    refine Zgg rfl (fun hB => ?_) (fun hB => ?_)
    · have hiq : i < qs.length := by omega
      obtain ⟨⟨qa, qc, l⟩, hq⟩ : ∃ p, p = qs[i] := ⟨_, rfl⟩
      have hqs : qs[i]? = some (qa, qc, l) := by rw [List.getElem?_eq_getElem hiq, ← hq]
      obtain ⟨hgi, hll⟩ := hqb i _ _ _ hqs
      have hmk : MkUp i l l.length := hqm2 i _ hqs
      refine Zgt (fun F w H => (h.imp qI).someAt (by omega) H) ?_
      rintro ⟨a1, a2, rfl⟩
      rw [List.drop_eq_getElem_cons hiq, ← hq]
      refine Zgp (Imp.cons (Imp.cons star_uncons)) ?_
      refine Y4 ?_
      refine Zff rfl ((h.imp qI).at hB hgi) ?_
      refine V5 ?_
      refine Zgo [(7, 8), (45, 60)] (by kernel_rfl) (fun s : Nat × Part × Bool => s.1 ≤ 70 ∧ Heir i s.1 (qa, qc, l) s.2.1 s.2.2)
        (fun s => own 5 1 (.slice s.2.1.1 (l.length + s.1) s.2.1.2.1) (l.length + s.1) (s.2.1.2.2.map u8b) :: remP s.2.2 (qa, qc, l) :: own 33 1 (.slice ha i hc) i (ds.map fun t => vP t.2.1) :: star A2 ds :: star ownP (qs.drop (i + 1)) :: L)
        (fun s => [(8, ni s.1), (7, .slice s.2.1.1 (l.length + s.1) s.2.1.2.1)]) (fun s => 70 - s.1) (0, (qa, qc, l), true) ⟨Nat.zero_le _, hmk, hmk, rfl, fun _ => ⟨rfl, rfl, List.take_length⟩⟩ ?_ ⟨rfl, rfl, trivial⟩ ?_
      · refine Imp.trans (Imp.app (L := [])) ?_
        show Imp (remP true (qa, qc, l) :: own 33 1 (.slice ha i hc) i (ds.map fun t => vP t.2.1) :: star A2 ds :: own 5 1 (.slice qa l.length qc) l.length (l.map u8b) :: star ownP (qs.drop (i + 1)) :: L) (own 5 1 (.slice qa l.length qc) l.length (l.map u8b) :: remP true (qa, qc, l) :: own 33 1 (.slice ha i hc) i (ds.map fun t => vP t.2.1) :: star A2 ds :: star ownP (qs.drop (i + 1)) :: L)
        exact qI
      rintro ⟨j, ⟨xa, xc, x⟩, s⟩ u3 ⟨hj, hpm, hxm, hxl, hxs⟩
      dsimp only at hj hpm hxm hxl hxs ⊢
      refine V4 ?_
      refine Zgg rfl (fun hA => ?_) (fun hA => ?_)
      · refine Y6 ?_
        refine Zff rfl ((h.imp qI).at hB hgi) ?_
        refine Y3 ?_
        refine Zh8 rfl (by kernel_rfl) (mark_x i (l.length + j) (by omega) (by omega)) rfl qT ?_
        rintro _ _ ⟨rfl, rfl⟩
        refine Y1 ?_
        refine Zh7 (cs := #[.int .u8 _]) (by omega) (by omega) rfl ?_; intro b59
        refine Znq rfl rfl qH (Rd.cl (xs := [u8b (mkB i (l.length + j))]) qH rfl qZ rfl) qN (by omega) qS (by omega) ?_; intro s' a' c' hs'
        refine V2 ?_
        have e2 : x.map u8b ++ [u8b (mkB i (l.length + j))] = (x ++ [mkB i (l.length + j)]).map u8b := by simp only [List.map_append, List.map_cons, List.map_nil]
        rw [e2]
        have hm2 : MkUp i (x ++ [mkB i (l.length + j)]) (x ++ [mkB i (l.length + j)]).length := by
          have := MkUp.snoc hxm
          rw [List.length_append]; rw [hxl] at this ⊢; exact this
        have hl2 : (x ++ [mkB i (l.length + j)]).length = l.length + (j + 1) := by rw [List.length_append, hxl]; rfl
        refine V5 ?_
        cases s with
        | false =>
          refine Zgl (j + 1, (a', c', x ++ [mkB i (l.length + j)]), false) qO ⟨by dsimp only; omega, hpm, hm2, hl2, fun h => Bool.noConfusion h⟩ ?_ ⟨rfl, rfl, trivial⟩
          show Imp _ (own 5 1 (.slice a' (l.length + j + 1) c') (l.length + j + 1) ((x ++ [mkB i (l.length + j)]).map u8b) :: remP false (qa, qc, l) :: own 33 1 (.slice ha i hc) i (ds.map fun t => vP t.2.1) :: star A2 ds :: star ownP (qs.drop (i + 1)) :: L)
          exact qI
        | true =>
          obtain ⟨rfl, rfl, ht⟩ := hxs rfl
          cases s' with
          | true =>
            obtain ⟨rfl, rfl⟩ := hs' rfl
            refine Zgl (j + 1, (_, _, x ++ [mkB i (l.length + j)]), true) qO ⟨by dsimp only; omega, hpm, hm2, hl2, fun _ => ⟨rfl, rfl, by dsimp only; rw [List.take_append_of_le_length (by omega), ht]⟩⟩ ?_ ⟨rfl, rfl, trivial⟩
            show Imp _ (own 5 1 (.slice _ (l.length + j + 1) _) (l.length + j + 1) ((x ++ [mkB i (l.length + j)]).map u8b) :: remP true (_, _, l) :: own 33 1 (.slice ha i hc) i (ds.map fun t => vP t.2.1) :: star A2 ds :: star ownP (qs.drop (i + 1)) :: L)
            exact qI
          | false =>
            refine Zgl (j + 1, (a', c', x ++ [mkB i (l.length + j)]), false) qO ⟨by dsimp only; omega, hpm, hm2, hl2, fun h => Bool.noConfusion h⟩ ?_ ⟨rfl, rfl, trivial⟩
            refine Imp.trans (Imp.cons ((Imp.unapp (L := [own 5 1 (.slice xa (l.length + j) xc) (l.length + j) (x.map u8b)])).trans (own_take (m := l.length) (by omega)))) ?_
            rw [← List.map_take, ht]
            refine Imp.trans (Imp.arr (N := own 5 1 (.slice xa l.length xc) l.length (l.map u8b) :: own 5 1 (.slice a' (l.length + j + 1) c') (l.length + j + 1) ((x ++ [mkB i (l.length + j)]).map u8b) :: own 33 1 (.slice ha i hc) i (ds.map fun t => vP t.2.1) :: star A2 ds :: star ownP (qs.drop (i + 1)) :: L) qV) ?_
            exact (Imp.app (L := [ownP (xa, xc, l)])).trans Imp.swap
      · have hje : j = 70 := by omega
        subst hje
        refine Y3 ?_
        refine Zh7 (cs := #[.slice _ _ _]) (by omega) (by omega) rfl ?_; intro b63
        refine Zia rfl rfl qH (Rd.cl (xs := [.slice xa (l.length + 70) xc]) qH rfl qZ rfl) qN (by omega) qS ?_; intro a3 c3
        refine V7 ?_
        refine Zgl (i + 1, ds ++ [((qa, qc, l), (xa, xc, x), s)], a3, c3) qO ⟨by dsimp only; omega, by simp [hdl], ?_⟩ ?_ ⟨rfl, rfl, trivial⟩
        · intro k t hk
          dsimp only at hk
          by_cases e : k < ds.length
          · rw [List.getElem?_append_left e] at hk; exact hdi k t hk
          · rw [List.getElem?_append_right (by omega)] at hk
            obtain ⟨h1, h2⟩ := List.getElem?_eq_some_iff.mp hk
            have : k = i := by simp at h1; omega
            subst this
            have : t = ((qa, qc, l), (xa, xc, x), s) := by rw [← h2]; simp [hdl]
            subst this
            exact ⟨hqs, hpm, hxm, hxl, hxs⟩
        · dsimp only
          have e3 : (ds ++ [((qa, qc, l), (xa, xc, x), s)]).map (fun t : Trip => vP t.2.1) = (ds.map fun t => vP t.2.1) ++ [.slice xa (l.length + 70) xc] := by
            rw [List.map_append]; simp only [List.map_cons, List.map_nil, vP]; rw [hxl]
          rw [e3]
          refine Imp.trans (Imp.arr (N := own 5 1 (.slice xa (l.length + 70) xc) (l.length + 70) (x.map u8b) :: remP s (qa, qc, l) :: star A2 ds :: own 33 1 (.slice a3 (i + 1) c3) (i + 1) ((ds.map fun t => vP t.2.1) ++ [.slice xa (l.length + 70) xc]) :: star ownP (qs.drop (i + 1)) :: L) qV) ?_
          have h1 : Imp (own 5 1 (.slice xa (l.length + 70) xc) (l.length + 70) (x.map u8b) :: remP s (qa, qc, l) :: star A2 ds :: own 33 1 (.slice a3 (i + 1) c3) (i + 1) ((ds.map fun t => vP t.2.1) ++ [.slice xa (l.length + 70) xc]) :: star ownP (qs.drop (i + 1)) :: L)
              (A2 ((qa, qc, l), (xa, xc, x), s) :: star A2 ds :: own 33 1 (.slice a3 (i + 1) c3) (i + 1) ((ds.map fun t => vP t.2.1) ++ [.slice xa (l.length + 70) xc]) :: star ownP (qs.drop (i + 1)) :: L) := by
            have e4 : own 5 1 (.slice xa (l.length + 70) xc) (l.length + 70) (x.map u8b) = ownP (xa, xc, x) := by unfold ownP vP; dsimp only; rw [hxl]
            rw [e4]
            exact Imp.app (L := [ownP (xa, xc, x), remP s (qa, qc, l)])
          exact h1.trans (star_snoc.trans Imp.swap)
    · have hie : i = qs.length := by omega
      subst hie
      refine V3 ?_
      refine Zgo [(2, 2), (9, 10), (65, 112)] (by kernel_rfl) (fun k : Nat => k ≤ qs.length) (fun _ => own 33 1 (.slice ha qs.length hc) qs.length (ds.map fun t => vP t.2.1) :: star A2 ds :: L) (fun k => [(9, ni k)]) (fun k => qs.length - k) 0 (Nat.zero_le _) qI ⟨rfl, trivial⟩ ?_
      intro k u3 hk
      refine V6 ?_
      refine Zgg rfl (fun hB => ?_) (fun hB => ?_)
      · have hkd : k < ds.length := by omega
        have hkq : k < qs.length := by omega
        obtain ⟨⟨⟨pa, pc, p⟩, ⟨qa, qc, q⟩, s⟩, ht⟩ : ∃ t, t = ds[k] := ⟨_, rfl⟩
        have hmem : ((pa, pc, p), (qa, qc, q), s) ∈ ds := by rw [ht]; exact List.getElem_mem hkd
        obtain ⟨hps, hheir⟩ := hdi k ((pa, pc, p), (qa, qc, q), s) (by rw [List.getElem?_eq_getElem hkd, ← ht])
        obtain ⟨hgp, hpl⟩ := hqb k _ _ _ hps
        have hge : (ds.map fun t => vP t.2.1)[k]? = some (.slice qa q.length qc) := by rw [List.getElem?_map, List.getElem?_eq_getElem hkd, ← ht]; rfl
        have bq : ∀ {M M' : List Asrt}, Has M (star A2 ds) M' → Bs M (.slice qa q.length qc) q := fun hm => star_bs hmem (fun R => A2_q) hm
        have bp : ∀ {M M' : List Asrt}, Has M (star A2 ds) M' → Bs M (.slice pa p.length pc) p := fun hm => star_bs hmem (fun R => A2_p hheir) hm
        obtain ⟨hpm, hqm3, hql2, _⟩ := hheir
        dsimp only at hpm hqm3 hql2
        refine Zgt (fun F w H => (h.imp qI).someAt (by omega) H) ?_
        rintro ⟨a1, a2, rfl⟩
        refine Zgt (fun F w H => own_some (a := ha) qH (by omega) H) ?_
        rintro ⟨gh, rfl⟩
        refine V3 ?_
        refine Zgo [(2, 2), (10, 10), (71, 112)] (by kernel_rfl) (fun j : Nat => j ≤ q.length) (fun _ => own 33 1 (.slice (some ⟨gh, 0, none⟩) qs.length hc) qs.length (ds.map fun t => vP t.2.1) :: star A2 ds :: L) (fun j => [(10, ni j)]) (fun j => q.length - j) 0 (Nat.zero_le _) qI ⟨rfl, trivial⟩ ?_
        intro j u4 hj
        refine Y5 ?_
        refine Zff rfl ((Rd.own (n := qs.length) qH).at0 hkq hge) ?_
        refine V3 ?_
        refine Zgg rfl (fun hA => ?_) (fun hA => ?_)
        · have hqv2 : q[j] = mkB k j := hqm3.at hA hA
          refine Zgt (fun F w H => (bq qH).some (by omega) H) ?_
          rintro ⟨c1, c2, rfl⟩
          by_cases hjp : j < p.length
          · have hpv2 : p[j] = mkB k j := hpm.at hjp hjp
            refine Zgt (fun F w H => (bp qH).some (by omega) H) ?_
            rintro ⟨d1, d2, rfl⟩
            refine Ct.o ?_
            refine Zij (_) [9, 29] (.q 0 (.q 1 (.q 2 (.q 4 (.q 7 (.q 8 (.r 3 (.q 5 (.r 6 (.e 9 true (.q 10 (.q 11 (.q 12 (.q 13 (.q 14 (.q 15 (.r 16 (.q 17 (.q 18 (.q 19 (.q 20 (.q 21 (.q 22 (.q 24 (.q 27 (.q 28 (.r 23 (.q 25 (.r 26 (.e 29 true (.q 30 (.q 31 (.q 32 .nil))))))))))))))))))))))))))))))))) (by kernel_rfl) (by kernel_rfl) (Imp.refl _) ?_
            refine W6 ?_
            refine Zfh rfl rfl ((Rd.own (n := qs.length) qH).at0 hkq hge) ?_
            refine W1 ?_
            refine Zfh rfl rfl ((bq qH).rd.at hA (getM hA)) ?_
            refine Ziq rfl ?_
            refine Zh8 rfl (by kernel_rfl) (mark_x k j (by omega) (by omega)) rfl qT ?_
            rintro _ _ ⟨rfl, rfl⟩
            refine Y1 ?_
            refine Zg3 ⟨fun _ => Imp.arr qV, ?_⟩
            refine Zim rfl (Zjl rfl rfl) ?_
            refine Zi6 90 rfl (decide_eq_false ((fun hh => hh hqv2))) ?_
            refine W5 ?_
            first|refine Zi1 rfl rfl ?_|refine Zi2 rfl rfl ?_|refine Zfi rfl rfl rfl ((h.imp qI).at (by omega) hgp) ?_
            refine W2 ?_
            refine Zi5 98 rfl (decide_eq_true (hjp)) ?_
            refine W7 ?_
            first|refine Zi1 rfl rfl ?_|refine Zi2 rfl rfl ?_|refine Zfi rfl rfl rfl ((h.imp qI).at (by omega) hgp) ?_
            refine W1 ?_
            first|refine Zi1 rfl rfl ?_|refine Zi2 rfl rfl ?_|refine Zfi rfl rfl rfl ((bp qH).rd.at hjp (getM hjp)) ?_
            refine Ziq rfl ?_
            first|refine Y0 ?_|(refine Zhh rfl ?_; (refine Zh8 rfl (by kernel_rfl) (mark_x k j (by omega) (by omega)) rfl qT ?_); (rintro _ _ ⟨rfl, rfl⟩); (refine Zg2 qA ?_))
            refine Zg3 ⟨fun _ => Imp.arr qV, ?_⟩
            first|refine Zio rfl rfl ?_|refine Zip rfl rfl ?_|refine Zin rfl rfl (Zjl rfl rfl) ?_
            refine Zi6 110 rfl (decide_eq_false ((fun hh => hh hpv2))) ?_
            refine W3 ?_
            refine V6 ?_
            exact Zgl (j + 1) qO (by omega) qI ⟨rfl, trivial⟩
          · refine Ct.o ?_
            refine Zij (_) [9, 29] (.q 0 (.q 1 (.q 2 (.q 4 (.q 7 (.q 8 (.r 3 (.q 5 (.r 6 (.e 9 true (.q 10 (.q 11 (.q 12 (.q 13 (.q 14 (.q 15 (.r 16 (.q 17 (.q 18 (.q 19 (.q 20 (.q 21 (.q 22 (.q 24 (.q 27 (.q 28 (.r 23 (.q 25 (.r 26 (.e 29 true (.q 30 (.q 31 (.q 32 .nil))))))))))))))))))))))))))))))))) (by kernel_rfl) (by kernel_rfl) (Imp.refl _) ?_
            refine W6 ?_
            refine Zfh rfl rfl ((Rd.own (n := qs.length) qH).at0 hkq hge) ?_
            refine W1 ?_
            refine Zfh rfl rfl ((bq qH).rd.at hA (getM hA)) ?_
            refine Ziq rfl ?_
            refine Zh8 rfl (by kernel_rfl) (mark_x k j (by omega) (by omega)) rfl qT ?_
            rintro _ _ ⟨rfl, rfl⟩
            refine Y1 ?_
            refine Zg3 ⟨fun _ => Imp.arr qV, ?_⟩
            refine Zim rfl (Zjl rfl rfl) ?_
            refine Zi6 90 rfl (decide_eq_false ((fun hh => hh hqv2))) ?_
            refine W5 ?_
            first|refine Zi1 rfl rfl ?_|refine Zi2 rfl rfl ?_|refine Zfi rfl rfl rfl ((h.imp qI).at (by omega) hgp) ?_
            refine W2 ?_
            refine Zi6 98 rfl (decide_eq_false (hjp)) ?_
            refine W10 ?_
            refine Ziq rfl ?_
            first|refine Y0 ?_|(refine Zhh rfl ?_; (refine Zh8 rfl (by kernel_rfl) (mark_x k j (by omega) (by omega)) rfl qT ?_); (rintro _ _ ⟨rfl, rfl⟩); (refine Zg2 qA ?_))
            refine Zg3 ⟨fun _ => Imp.arr qV, ?_⟩
            first|refine Zio rfl rfl ?_|refine Zip rfl rfl ?_|refine Zin rfl rfl (Zjl rfl rfl) ?_
            refine W3 ?_
            refine V6 ?_
            exact Zgl (j + 1) qO (by omega) qI ⟨rfl, trivial⟩
        · refine V5 ?_
          exact Zgl (k + 1) qO (by omega) qI ⟨rfl, trivial⟩
      · refine V3 ?_
        refine rx1 (Zha rfl (Zg7)) ?_
        exact ⟨_, ⟨rfl, rfl⟩, qI⟩
end Go.Sl

/- ApartInts: lists of numbers that do not share, walked. -/
set_option maxHeartbeats 4000000
set_option maxRecDepth 10000
set_option linter.unusedVariables false
set_option linter.unusedSimpArgs false
namespace Go.Sl
open Go Go.Proofs
attribute [local irreducible] pt pur ex all den denOps denS xOps xC cX CX xthen xblk xcut xloop xng retX resX Calls PV Rd Con
abbrev zi (z : Int) : Value := .int .i64 z
theorem oneM_int (l : List Int) : (l.map zi).all oneC = true := by simp [oneC]
abbrev mkI (i j : Nat) : Int := ((i * 100003 + j : Nat) : Int)
theorem star_rd {α : Type} {A : α → Asrt} {l : List α} {x : α} {v : Value} {n k : Nat} {xs : List Value} (hx : x ∈ l) (h : ∀ R, Rd (A x :: R) n v k xs) {M M' : List Asrt} (hm : Has M (star A l) M') : Rd M n v k xs := by
  obtain ⟨R, hR⟩ := star_has (A := A) hx hm
  exact (h R).imp hR
abbrev PartI := Option Addr × Nat × List Int
def vPI (p : PartI) : Value := .slice p.1 p.2.2.length p.2.1
def ownPI (p : PartI) : Asrt := own 3 1 (vPI p) p.2.2.length (p.2.2.map zi)
def MkUpI (i : Nat) (l : List Int) (n : Nat) : Prop := ∀ j, j < n → l[j]? = some (mkI i j)
theorem MkUpI.set {i j : Nat} {l : List Int} (h : MkUpI i l j) (hj : j < l.length) : MkUpI i (l.set j (mkI i j)) (j + 1) := by
  intro k hk
  by_cases e : j = k
  · subst e; rw [List.getElem?_set_self hj]
  · rw [List.getElem?_set_ne e]; exact h k (by omega)
theorem MkUpI.snoc {i : Nat} {l : List Int} (h : MkUpI i l l.length) : MkUpI i (l ++ [mkI i l.length]) (l.length + 1) := by
  intro k hk
  by_cases e : k = l.length
  · subst e; rw [List.getElem?_append_right (Nat.le_refl _), Nat.sub_self]; rfl
  · rw [List.getElem?_append_left (by omega)]; exact h k (by omega)
theorem MkUpI.at {i j n : Nat} {l : List Int} (h : MkUpI i l n) (hj : j < n) (hl : j < l.length) : l[j] = mkI i j := by
  have := h j hj
  rw [List.getElem?_eq_getElem hl] at this
  exact Option.some.inj this
def remPI (s : Bool) (p : PartI) : Asrt := all (if s then [] else [ownPI p])
abbrev TripI := PartI × PartI × Bool
def A2I (t : TripI) : Asrt := all [ownPI t.2.1, remPI t.2.2 t.1]
/-- What a part and its longer heir are to each other. -/
def HeirI (i k : Nat) (p q : PartI) (s : Bool) : Prop := MkUpI i p.2.2 p.2.2.length ∧ MkUpI i q.2.2 q.2.2.length ∧ q.2.2.length = p.2.2.length + k ∧ (s = true → q.1 = p.1 ∧ q.2.1 = p.2.1 ∧ q.2.2.take p.2.2.length = p.2.2)
theorem A2I_q {t : TripI} {M : List Asrt} : Rd (A2I t :: M) 1 (vPI t.2.1) t.2.1.2.2.length (t.2.1.2.2.map zi) :=
  (Rd.own (M := ownPI t.2.1 :: remPI t.2.2 t.1 :: M) .here).imp (Imp.unapp (L := [ownPI t.2.1, remPI t.2.2 t.1]))
theorem A2I_p {i k : Nat} {t : TripI} {M : List Asrt} (h : HeirI i k t.1 t.2.1 t.2.2) : Rd (A2I t :: M) 1 (vPI t.1) t.1.2.2.length (t.1.2.2.map zi) := by
  obtain ⟨p, q, s⟩ := t
  have h0 : Imp (A2I (p, q, s) :: M) (ownPI q :: remPI s p :: M) := Imp.unapp (L := [ownPI q, remPI s p])
  cases s with
  | false =>
    have h1 : Imp (A2I (p, q, false) :: M) (ownPI q :: ownPI p :: M) := h0.trans (Imp.cons (Imp.unapp (L := [ownPI p])))
    exact (Rd.own (.there .here)).imp h1
  | true =>
    obtain ⟨_, _, hl, h3⟩ := h
    obtain ⟨ha, hc, ht⟩ := h3 rfl
    dsimp only at ha hc ht hl
    have h1 : Imp (A2I (p, q, true) :: M) (ownPI p :: remPI true p :: M) := by
      refine h0.trans ?_
      have := own_take (E := 3) (n := q.2.2.length) (m := p.2.2.length) (c := q.2.1) (a := q.1) (xs := q.2.2.map zi) (M := remPI true p :: M) (by omega)
      rw [← List.map_take, ht, ha, hc] at this
      have e : ownPI q = own 3 1 (.slice p.1 q.2.2.length p.2.1) q.2.2.length (q.2.2.map zi) := by unfold ownPI vPI; rw [ha, hc]
      rw [e]
      exact this
    exact (Rd.own .here).imp h1
theorem vPI_at {ps : List PartI} {qs : List PartI} {i : Nat} (hi : i < qs.length) (h : qs.map vPI = ps.map vPI) {a : Option Addr} {c : Nat} {l : List Int} (hq : (a, c, l) = qs[i]) : (ps.map vPI)[i]? = some (.slice a l.length c) := by
  rw [← h, List.getElem?_map, List.getElem?_eq_getElem hi, ← hq]; rfl
theorem vPI_len {ps : List PartI} {i n c : Nat} {a : Option Addr} (h : (ps.map vPI)[i]? = some (.slice a n c)) {B : Nat} (hb : ∀ p ∈ ps, p.2.2.length ≤ B) : n ≤ B := by
  rw [List.getElem?_map] at h
  obtain ⟨p, hp, h⟩ := Option.map_eq_some_iff.mp h
  simp only [vPI, Value.slice.injEq] at h
  have := hb p (List.mem_of_getElem? hp)
  omega
theorem apartI_x {L : List Asrt} {va : Option Addr} {vc N : Nat} (ps : List PartI) (hN : ps.length = N) (hNl : N ≤ 1048576) (hlen : ∀ p ∈ ps, p.2.2.length ≤ 17592186044000) (h : Rd L 1 (.slice va N vc) N (ps.map vPI)) :
    Con Tryz.prog 72 [.slice va N vc] (star ownPI ps :: L) (fun r M => r = .bool true ∧ L = M) := by
  refine fn_x Tryz.func72 rfl rfl rfl Tryz.mixed (by kernel_rfl) ?_
  intro w0
  refine V6 ?_
  refine Zgo [(3, 4), (11, 35)] (by kernel_rfl) (fun s : Nat × List PartI => s.1 ≤ N ∧ s.2.map vPI = ps.map vPI ∧ ∀ k p, k < s.1 → s.2[k]? = some p → MkUpI k p.2.2 p.2.2.length) (fun s => star ownPI s.2 :: L) (fun s => [(3, ni s.1)]) (fun s => N - s.1) (0, ps) ⟨Nat.zero_le _, rfl, fun k p h => absurd h (Nat.not_lt_zero _)⟩ qI ⟨rfl, trivial⟩ ?_
  rintro ⟨i, qs⟩ u ⟨hi, hqv, hqm⟩
  dsimp only at hi hqv hqm ⊢
  have hql : qs.length = N := by rw [← List.length_map (f := vPI), hqv, List.length_map, hN]
  refine V6 ?_
  refine Zgg rfl (fun hB => ?_) (fun hB => ?_)
  · have hiq : i < qs.length := by omega
    obtain ⟨⟨qa, qc, l⟩, hq⟩ : ∃ p, p = qs[i] := ⟨_, rfl⟩
    have hgi := vPI_at hiq hqv hq
    have hll := vPI_len hgi hlen
    refine Zgt (fun F w H => (h.imp qI).someAt (by omega) H) ?_
    rintro ⟨a1, a2, rfl⟩
    refine Zgp (star_at hiq) ?_
    rw [← hq]
    refine V3 ?_
    refine Zgo [(4, 4), (17, 35)] (by kernel_rfl) (fun s : Nat × List Int => s.1 ≤ l.length ∧ s.2.length = l.length ∧ MkUpI i s.2 s.1) (fun s => own 3 1 (.slice qa l.length qc) l.length (s.2.map zi) :: star ownPI (qs.eraseIdx i) :: L) (fun s => [(4, ni s.1)]) (fun s => l.length - s.1) (0, l) ⟨Nat.zero_le _, rfl, fun k h => absurd h (Nat.not_lt_zero _)⟩ (Imp.refl _) ⟨rfl, trivial⟩ ?_
    rintro ⟨j, x⟩ u2 ⟨hj, hxl, hxm⟩
    dsimp only at hj hxl hxm ⊢
    refine Y5 ?_
    refine Zff rfl ((h.imp qI).at hB hgi) ?_
    refine V3 ?_
    refine Zgg rfl (fun hA => ?_) (fun hA => ?_)
    · refine Zgt (fun F w H => own_some (a := qa) qH (by omega) H) ?_
      rintro ⟨g, rfl⟩
      refine Y4 ?_
      refine Zff rfl ((h.imp qI).at hB hgi) ?_
      refine Y6 ?_
      refine Zm7 (u := zi (mkI i j)) (i := j) (xs := x.map zi) (ys := (x.set j (mkI i j)).map zi) rfl rfl rfl qR (by omega) (by rw [List.map_set]) ?_
      refine V6 ?_
      exact Zgl (j + 1, x.set j (mkI i j)) qO ⟨by dsimp only; omega, by simp [hxl], hxm.set (by omega)⟩ qI ⟨rfl, trivial⟩
    · have hje : j = l.length := by omega
      subst hje
      refine V5 ?_
      have e1 : vPI (qa, qc, x) = vPI qs[i] := by rw [← hq]; simp [vPI, hxl]
      refine Zgl (i + 1, qs.set i (qa, qc, x)) qO ⟨by dsimp only; omega, ?_, ?_⟩ ?_ ⟨rfl, trivial⟩
      · dsimp only; rw [List.map_set, e1, ← List.map_set, List.set_getElem_self, hqv]
      · intro k p hk hp
        dsimp only at hk hp
        by_cases e : i = k
        · subst e
          rw [List.getElem?_set_self hiq] at hp
          obtain rfl := Option.some.inj hp
          dsimp only; rw [hxl]; exact hxm
        · rw [List.getElem?_set_ne e] at hp
          exact hqm k p (by omega) hp
      · dsimp only
        have := star_back (A := ownPI) hiq (qa, qc, x) (M := L)
        refine Imp.trans ?_ this
        show Imp _ (own 3 1 (.slice qa x.length qc) x.length (x.map zi) :: _)
        rw [hxl]
        exact qI
  · have hie : i = N := by omega
    subst hie
    have hqm2 : ∀ k p, qs[k]? = some p → MkUpI k p.2.2 p.2.2.length := fun k p hp => hqm k p (by have := (List.getElem?_eq_some_iff.mp hp).1; omega) hp
    have hqb : ∀ (k : Nat) (a : Option Addr) (c : Nat) (l : List Int), qs[k]? = some (a, c, l) → (ps.map vPI)[k]? = some (.slice a l.length c) ∧ l.length ≤ 17592186044000 := fun k a c l hk => by
      obtain ⟨h1, h2⟩ := List.getElem?_eq_some_iff.mp hk
      have := vPI_at h1 hqv h2.symm
      exact ⟨this, vPI_len this hlen⟩
    refine V6 ?_
    refine Zgo [(5, 8), (36, 66)] (by kernel_rfl) (fun s : Nat × List TripI × Option Addr × Nat => s.1 ≤ qs.length ∧ s.2.1.length = s.1 ∧ ∀ k t, s.2.1[k]? = some t → qs[k]? = some t.1 ∧ HeirI k 70 t.1 t.2.1 t.2.2) (fun s => own 43 1 (.slice s.2.2.1 s.1 s.2.2.2) s.1 (s.2.1.map fun t => vPI t.2.1) :: star A2I s.2.1 :: star ownPI (qs.drop s.1) :: L) (fun s => [(6, ni s.1), (5, .slice s.2.2.1 s.1 s.2.2.2)]) (fun s => qs.length - s.1) (0, [], none, 0) ⟨Nat.zero_le _, rfl, fun k t h => by simp at h⟩ (Imp.trans (star_nil (A := A2I)) Imp.own_nil) ⟨rfl, rfl, trivial⟩ ?_
    rintro ⟨i, ds, ha, hc⟩ u2 ⟨hi, hdl, hdi⟩
    dsimp only at hi hdl hdi ⊢
    refine V6 ?_
    refine Zgg rfl (fun hB => ?_) (fun hB => ?_)
    · have hiq : i < qs.length := by omega
      obtain ⟨⟨qa, qc, l⟩, hq⟩ : ∃ p, p = qs[i] := ⟨_, rfl⟩
      have hqs : qs[i]? = some (qa, qc, l) := by rw [List.getElem?_eq_getElem hiq, ← hq]
      obtain ⟨hgi, hll⟩ := hqb i _ _ _ hqs
      have hmk : MkUpI i l l.length := hqm2 i _ hqs
      refine Zgt (fun F w H => (h.imp qI).someAt (by omega) H) ?_
      rintro ⟨a1, a2, rfl⟩
      rw [List.drop_eq_getElem_cons hiq, ← hq]
      refine Zgp (Imp.cons (Imp.cons star_uncons)) ?_
      refine Y4 ?_
      refine Zff rfl ((h.imp qI).at hB hgi) ?_
      refine V5 ?_
      refine Zgo [(7, 8), (46, 62)] (by kernel_rfl) (fun s : Nat × PartI × Bool => s.1 ≤ 70 ∧ HeirI i s.1 (qa, qc, l) s.2.1 s.2.2)
        (fun s => own 3 1 (.slice s.2.1.1 (l.length + s.1) s.2.1.2.1) (l.length + s.1) (s.2.1.2.2.map zi) :: remPI s.2.2 (qa, qc, l) :: own 43 1 (.slice ha i hc) i (ds.map fun t => vPI t.2.1) :: star A2I ds :: star ownPI (qs.drop (i + 1)) :: L)
        (fun s => [(8, ni s.1), (7, .slice s.2.1.1 (l.length + s.1) s.2.1.2.1)]) (fun s => 70 - s.1) (0, (qa, qc, l), true) ⟨Nat.zero_le _, hmk, hmk, rfl, fun _ => ⟨rfl, rfl, List.take_length⟩⟩ ?_ ⟨rfl, rfl, trivial⟩ ?_
      · refine Imp.trans (Imp.app (L := [])) ?_
        show Imp (remPI true (qa, qc, l) :: own 43 1 (.slice ha i hc) i (ds.map fun t => vPI t.2.1) :: star A2I ds :: own 3 1 (.slice qa l.length qc) l.length (l.map zi) :: star ownPI (qs.drop (i + 1)) :: L) (own 3 1 (.slice qa l.length qc) l.length (l.map zi) :: remPI true (qa, qc, l) :: own 43 1 (.slice ha i hc) i (ds.map fun t => vPI t.2.1) :: star A2I ds :: star ownPI (qs.drop (i + 1)) :: L)
        exact qI
      rintro ⟨j, ⟨xa, xc, x⟩, s⟩ u3 ⟨hj, hpm, hxm, hxl, hxs⟩
      dsimp only at hj hpm hxm hxl hxs ⊢
      refine V4 ?_
      refine Zgg rfl (fun hA => ?_) (fun hA => ?_)
      · refine Y7 ?_
        refine Zff rfl ((h.imp qI).at hB hgi) ?_
        refine Y4 ?_
        refine Zh7 (cs := #[.int .i64 _]) (by omega) (by omega) rfl ?_; intro b61
        refine Znq rfl rfl qH (Rd.cl (xs := [zi ((i * 100003 + l.length + j : Nat) : Int)]) qH rfl qZ rfl) (by first|rfl|exact oneM_int _|assumption|(simp [oneC]; done)) (by omega) qS (by omega) ?_; intro s' a' c' hs'
        refine V2 ?_
        rw [show i * 100003 + l.length + j = i * 100003 + (l.length + j) from Nat.add_assoc ..]
        have e2 : x.map zi ++ [zi (mkI i (l.length + j))] = (x ++ [mkI i (l.length + j)]).map zi := by simp only [List.map_append, List.map_cons, List.map_nil]
        rw [e2]
        have hm2 : MkUpI i (x ++ [mkI i (l.length + j)]) (x ++ [mkI i (l.length + j)]).length := by
          have := MkUpI.snoc hxm
          rw [List.length_append]; rw [hxl] at this ⊢; exact this
        have hl2 : (x ++ [mkI i (l.length + j)]).length = l.length + (j + 1) := by rw [List.length_append, hxl]; rfl
        refine V5 ?_
        cases s with
        | false =>
          refine Zgl (j + 1, (a', c', x ++ [mkI i (l.length + j)]), false) qO ⟨by dsimp only; omega, hpm, hm2, hl2, fun h => Bool.noConfusion h⟩ ?_ ⟨rfl, rfl, trivial⟩
          show Imp _ (own 3 1 (.slice a' (l.length + j + 1) c') (l.length + j + 1) ((x ++ [mkI i (l.length + j)]).map zi) :: remPI false (qa, qc, l) :: own 43 1 (.slice ha i hc) i (ds.map fun t => vPI t.2.1) :: star A2I ds :: star ownPI (qs.drop (i + 1)) :: L)
          exact qI
        | true =>
          obtain ⟨rfl, rfl, ht⟩ := hxs rfl
          cases s' with
          | true =>
            obtain ⟨rfl, rfl⟩ := hs' rfl
            refine Zgl (j + 1, (_, _, x ++ [mkI i (l.length + j)]), true) qO ⟨by dsimp only; omega, hpm, hm2, hl2, fun _ => ⟨rfl, rfl, by dsimp only; rw [List.take_append_of_le_length (by omega), ht]⟩⟩ ?_ ⟨rfl, rfl, trivial⟩
            show Imp _ (own 3 1 (.slice _ (l.length + j + 1) _) (l.length + j + 1) ((x ++ [mkI i (l.length + j)]).map zi) :: remPI true (_, _, l) :: own 43 1 (.slice ha i hc) i (ds.map fun t => vPI t.2.1) :: star A2I ds :: star ownPI (qs.drop (i + 1)) :: L)
            exact qI
          | false =>
            refine Zgl (j + 1, (a', c', x ++ [mkI i (l.length + j)]), false) qO ⟨by dsimp only; omega, hpm, hm2, hl2, fun h => Bool.noConfusion h⟩ ?_ ⟨rfl, rfl, trivial⟩
            refine Imp.trans (Imp.cons ((Imp.unapp (L := [own 3 1 (.slice xa (l.length + j) xc) (l.length + j) (x.map zi)])).trans (own_take (m := l.length) (by omega)))) ?_
            rw [← List.map_take, ht]
            refine Imp.trans (Imp.arr (N := own 3 1 (.slice xa l.length xc) l.length (l.map zi) :: own 3 1 (.slice a' (l.length + j + 1) c') (l.length + j + 1) ((x ++ [mkI i (l.length + j)]).map zi) :: own 43 1 (.slice ha i hc) i (ds.map fun t => vPI t.2.1) :: star A2I ds :: star ownPI (qs.drop (i + 1)) :: L) qV) ?_
            exact (Imp.app (L := [ownPI (xa, xc, l)])).trans Imp.swap
      · have hje : j = 70 := by omega
        subst hje
        refine Y3 ?_
        refine Zh7 (cs := #[.slice _ _ _]) (by omega) (by omega) rfl ?_; intro b65
        refine Zia rfl rfl qH (Rd.cl (xs := [.slice xa (l.length + 70) xc]) qH rfl qZ rfl) (by first|rfl|exact oneM_int _|assumption|(simp [oneC]; done)) (by omega) qS ?_; intro a3 c3
        refine V7 ?_
        refine Zgl (i + 1, ds ++ [((qa, qc, l), (xa, xc, x), s)], a3, c3) qO ⟨by dsimp only; omega, by simp [hdl], ?_⟩ ?_ ⟨rfl, rfl, trivial⟩
        · intro k t hk
          dsimp only at hk
          by_cases e : k < ds.length
          · rw [List.getElem?_append_left e] at hk; exact hdi k t hk
          · rw [List.getElem?_append_right (by omega)] at hk
            obtain ⟨h1, h2⟩ := List.getElem?_eq_some_iff.mp hk
            have : k = i := by simp at h1; omega
            subst this
            have : t = ((qa, qc, l), (xa, xc, x), s) := by rw [← h2]; simp [hdl]
            subst this
            exact ⟨hqs, hpm, hxm, hxl, hxs⟩
        · dsimp only
          have e3 : (ds ++ [((qa, qc, l), (xa, xc, x), s)]).map (fun t : TripI => vPI t.2.1) = (ds.map fun t => vPI t.2.1) ++ [.slice xa (l.length + 70) xc] := by
            rw [List.map_append]; simp only [List.map_cons, List.map_nil, vPI]; rw [hxl]
          rw [e3]
          refine Imp.trans (Imp.arr (N := own 3 1 (.slice xa (l.length + 70) xc) (l.length + 70) (x.map zi) :: remPI s (qa, qc, l) :: star A2I ds :: own 43 1 (.slice a3 (i + 1) c3) (i + 1) ((ds.map fun t => vPI t.2.1) ++ [.slice xa (l.length + 70) xc]) :: star ownPI (qs.drop (i + 1)) :: L) qV) ?_
          have h1 : Imp (own 3 1 (.slice xa (l.length + 70) xc) (l.length + 70) (x.map zi) :: remPI s (qa, qc, l) :: star A2I ds :: own 43 1 (.slice a3 (i + 1) c3) (i + 1) ((ds.map fun t => vPI t.2.1) ++ [.slice xa (l.length + 70) xc]) :: star ownPI (qs.drop (i + 1)) :: L)
              (A2I ((qa, qc, l), (xa, xc, x), s) :: star A2I ds :: own 43 1 (.slice a3 (i + 1) c3) (i + 1) ((ds.map fun t => vPI t.2.1) ++ [.slice xa (l.length + 70) xc]) :: star ownPI (qs.drop (i + 1)) :: L) := by
            have e4 : own 3 1 (.slice xa (l.length + 70) xc) (l.length + 70) (x.map zi) = ownPI (xa, xc, x) := by unfold ownPI vPI; dsimp only; rw [hxl]
            rw [e4]
            exact Imp.app (L := [ownPI (xa, xc, x), remPI s (qa, qc, l)])
          exact h1.trans (star_snoc.trans Imp.swap)
    · have hie : i = qs.length := by omega
      subst hie
      refine V3 ?_
      refine Zgo [(2, 2), (9, 10), (67, 116)] (by kernel_rfl) (fun k : Nat => k ≤ qs.length) (fun _ => own 43 1 (.slice ha qs.length hc) qs.length (ds.map fun t => vPI t.2.1) :: star A2I ds :: L) (fun k => [(9, ni k)]) (fun k => qs.length - k) 0 (Nat.zero_le _) qI ⟨rfl, trivial⟩ ?_
      intro k u3 hk
      refine V6 ?_
      refine Zgg rfl (fun hB => ?_) (fun hB => ?_)
      · have hkd : k < ds.length := by omega
        have hkq : k < qs.length := by omega
        obtain ⟨⟨⟨pa, pc, p⟩, ⟨qa, qc, q⟩, s⟩, ht⟩ : ∃ t, t = ds[k] := ⟨_, rfl⟩
        have hmem : ((pa, pc, p), (qa, qc, q), s) ∈ ds := by rw [ht]; exact List.getElem_mem hkd
        obtain ⟨hps, hheir⟩ := hdi k ((pa, pc, p), (qa, qc, q), s) (by rw [List.getElem?_eq_getElem hkd, ← ht])
        obtain ⟨hgp, hpl⟩ := hqb k _ _ _ hps
        have hge : (ds.map fun t => vPI t.2.1)[k]? = some (.slice qa q.length qc) := by rw [List.getElem?_map, List.getElem?_eq_getElem hkd, ← ht]; rfl
        have bq : ∀ {M M' : List Asrt}, Has M (star A2I ds) M' → Rd M 1 (.slice qa q.length qc) q.length (q.map zi) := fun hm => star_rd hmem (fun R => A2I_q) hm
        have bp : ∀ {M M' : List Asrt}, Has M (star A2I ds) M' → Rd M 1 (.slice pa p.length pc) p.length (p.map zi) := fun hm => star_rd hmem (fun R => A2I_p hheir) hm
        obtain ⟨hpm, hqm3, hql2, _⟩ := hheir
        dsimp only at hpm hqm3 hql2
        refine Zgt (fun F w H => (h.imp qI).someAt (by omega) H) ?_
        rintro ⟨a1, a2, rfl⟩
        refine Zgt (fun F w H => own_some (a := ha) qH (by omega) H) ?_
        rintro ⟨gh, rfl⟩
        refine V3 ?_
        refine Zgo [(2, 2), (10, 10), (73, 116)] (by kernel_rfl) (fun j : Nat => j ≤ q.length) (fun _ => own 43 1 (.slice (some ⟨gh, 0, none⟩) qs.length hc) qs.length (ds.map fun t => vPI t.2.1) :: star A2I ds :: L) (fun j => [(10, ni j)]) (fun j => q.length - j) 0 (Nat.zero_le _) qI ⟨rfl, trivial⟩ ?_
        intro j u4 hj
        refine Y5 ?_
        refine Zff rfl ((Rd.own (n := qs.length) qH).at0 hkq hge) ?_
        refine V3 ?_
        refine Zgg rfl (fun hA => ?_) (fun hA => ?_)
        · have hqv2 : q[j] = mkI k j := hqm3.at hA hA
          refine Zgt (fun F w H => (bq qH).someAt (by omega) H) ?_
          rintro ⟨c1, c2, rfl⟩
          by_cases hjp : j < p.length
          · have hpv2 : p[j] = mkI k j := hpm.at hjp hjp
            refine Zgt (fun F w H => (bp qH).someAt (by omega) H) ?_
            rintro ⟨d1, d2, rfl⟩
            refine Y4 ?_
            refine Zff rfl ((Rd.own (n := qs.length) qH).at0 hkq hge) ?_
            refine Y2 ?_
            refine Zff rfl ((bq qH).at hA (getM hA)) ?_
            refine Y4 ?_
            refine Zhg (Zbs (a := q[j]) (b := mkI k j) rfl rfl) ?_
            refine Zhn 93 rfl (decide_eq_false ((fun hh => hh hqv2))) ?_
            refine Y5 ?_
            first|refine Y0 ?_|(refine Zhh rfl ?_; (refine Zff rfl ((h.imp qI).at (by omega) hgp) ?_))
            refine Y2 ?_
            refine Zhm 101 rfl (decide_eq_true (hjp)) ?_
            refine Y4 ?_
            first|refine Y0 ?_|(refine Zhh rfl ?_; (refine Zff rfl ((h.imp qI).at (by omega) hgp) ?_))
            refine Y2 ?_
            first|refine Y0 ?_|(refine Zhh rfl ?_; (refine Zff rfl ((bp qH).at hjp (getM hjp)) ?_))
            refine Y4 ?_
            first|refine Y0 ?_|(refine Zhh rfl ?_; (refine Zhg (Zbs (a := p[j]) (b := mkI k j) rfl rfl) ?_))
            refine Zhn 114 rfl (decide_eq_false ((fun hh => hh hpv2))) ?_
            refine V9 ?_
            exact Zgl (j + 1) qO (by omega) qI ⟨rfl, trivial⟩
          · refine Y4 ?_
            refine Zff rfl ((Rd.own (n := qs.length) qH).at0 hkq hge) ?_
            refine Y2 ?_
            refine Zff rfl ((bq qH).at hA (getM hA)) ?_
            refine Y4 ?_
            refine Zhg (Zbs (a := q[j]) (b := mkI k j) rfl rfl) ?_
            refine Zhn 93 rfl (decide_eq_false ((fun hh => hh hqv2))) ?_
            refine Y5 ?_
            first|refine Y0 ?_|(refine Zhh rfl ?_; (refine Zff rfl ((h.imp qI).at (by omega) hgp) ?_))
            refine Y2 ?_
            refine Zhn 101 rfl (decide_eq_false (hjp)) ?_
            refine V22 ?_
            exact Zgl (j + 1) qO (by omega) qI ⟨rfl, trivial⟩
        · refine V5 ?_
          exact Zgl (k + 1) qO (by omega) qI ⟨rfl, trivial⟩
      · refine V3 ?_
        refine rx1 (Zha rfl (Zg7)) ?_
        exact ⟨_, ⟨rfl, rfl⟩, qI⟩
end Go.Sl

/- pager: what its calls leave of a host; how often it writes; over a host without faults nothing fails. No program in sight. -/
set_option linter.unusedVariables false
set_option linter.unusedSimpArgs false
namespace Go.Sl.PagerS
open Go Go.Sl Go.Sl.HostS
attribute [local irreducible] pgSealB pgOpenR
theorem does_ops (h : HS) (op page : Int) (b : Bytes) (act : HS → HS) (ha : ∀ s, (act s).ops = s.ops) : (does h op page b act).1.ops ≤ h.ops + 1 := by
  have h2 := ha (logged h op page b)
  unfold does
  split
  · exact Nat.le_succ _
  · dsimp only
    split
    · exact Nat.le_refl _
    · split
      · exact Nat.le_of_eq h2
      · exact Nat.le_of_eq h2
theorem writeR_ops (h : HS) (page : Int) (b : Bytes) : (writeR h page b).2.ops ≤ h.ops + 1 := by
  unfold writeR
  split
  · split
    · exact does_ops h 1 page b _ fun _ => rfl
    · exact Nat.le_succ _
  · exact Nat.le_succ _
theorem readR_ops (h : HS) (page : Int) : (readR h page).2.2.ops ≤ h.ops + 1 := by
  have d := does_ops h 0 page [] id fun _ => rfl
  unfold readR
  split
  · dsimp only
    split <;> exact d
  · exact Nat.le_succ _
/-- What goes on behind a call. -/
structure Near (k m : Nat) (s : PS) (h : HS) (s' : PS) (h' : HS) : Prop where
  ops : h'.ops ≤ h.ops + k
  writes : s'.writes ≤ s.writes + m
  pages : h'.pages = h.pages
  size : h'.size = h.size
  spages : s'.pages = s.pages
  text : s'.text = s.text
  key : s'.key = s.key
  round : s'.round = s.round
  window : s'.window = s.window
theorem Near.refl (k m : Nat) (s : PS) (h : HS) : Near k m s h s h := ⟨Nat.le_add_right _ _, Nat.le_add_right _ _, rfl, rfl, rfl, rfl, rfl, rfl, rfl⟩
theorem Near.trans {k m k' m' k2 m2 : Nat} {s s' s2 : PS} {h h' h2 : HS} (a : Near k m s h s' h') (b : Near k' m' s' h' s2 h2) (hk : k + k' ≤ k2) (hm : m + m' ≤ m2) : Near k2 m2 s h s2 h2 :=
  ⟨by have := a.ops; have := b.ops; omega, by have := a.writes; have := b.writes; omega, b.pages.trans a.pages, b.size.trans a.size, b.spages.trans a.spages, b.text.trans a.text, b.key.trans a.key, b.round.trans a.round, b.window.trans a.window⟩
theorem Near.over {k m : Nat} {s s' : PS} {h h' : HS} (a : Near k m s h s' h') (ho : Over s h) : Over s' h' := ⟨a.pages.trans (ho.pages.trans a.spages.symm), by rw [a.size, ho.size, a.text]⟩
theorem near_write (s : PS) (h : HS) (n : Int) : Near 1 1 s h (writeP s h n).2.1 (writeP s h n).2.2 := by
  have w1 := writeR_same h n (boxOf s n)
  have w2 := writeR_ops h n (boxOf s n)
  unfold writeP
  split
  · exact ⟨Nat.le_add_right _ _, Nat.le_add_right _ _, rfl, rfl, rfl, rfl, rfl, rfl, rfl⟩
  · dsimp only
    split
    · exact ⟨w2, Nat.le_refl _, w1.1, w1.2, rfl, rfl, rfl, rfl, rfl⟩
    · exact ⟨w2, Nat.le_add_right _ _, w1.1, w1.2, rfl, rfl, rfl, rfl, rfl⟩
theorem near_held {k m : Nat} {s : PS} {h : HS} {s' : PS} {h' : HS} (a : Near k m s h s' h') (l : List Fr) (n : Nat) : Near k m s h { s' with held := l, most := n } h' := ⟨a.ops, a.writes, a.pages, a.size, a.spages, a.text, a.key, a.round, a.window⟩
theorem near_room (s : PS) (h : HS) : Near 1 1 s h (roomP s h).2.1 (roomP s h).2.2 := by
  unfold roomP
  split
  · exact Near.refl ..
  · dsimp only
    have w := near_write s h ((s.held.head?.map Fr.page).getD 0)
    split
    · split
      · exact near_held w _ _
      · exact w
    · exact near_held (Near.refl 1 1 s h) _ _
theorem near_use {k m : Nat} {s : PS} {h : HS} {s' : PS} {h' : HS} (a : Near k m s h s' h') (f : Fr) : Near k m s h (useP s' f) h' := near_held a _ _
theorem near_fetch (s : PS) (h : HS) (n : Int) : Near 1 0 s h (fetchP s h n).2.1 (fetchP s h n).2.2 := by
  have r1 := readR_same h n
  have r2 := readR_ops h n
  have r : Near 1 0 s h s (readR h n).2.2 := ⟨r2, Nat.le_refl _, r1.1, r1.2, rfl, rfl, rfl, rfl, rfl⟩
  unfold fetchP
  split
  · dsimp only
    split
    · split
      · exact near_use r _
      · exact ⟨r.ops, r.writes, r.pages, r.size, rfl, rfl, rfl, rfl, rfl⟩
    · exact ⟨r.ops, r.writes, r.pages, r.size, rfl, rfl, rfl, rfl, rfl⟩
  · exact near_use (Near.refl 1 0 s h) _
theorem near_load (s : PS) (h : HS) (n : Int) : Near 2 1 s h (loadP s h n).2.1 (loadP s h n).2.2 := by
  unfold loadP
  split
  · split
    · exact near_use (Near.refl 2 1 s h) _
    · have a := near_room s h
      have b := near_fetch (roomP s h).2.1 (roomP s h).2.2 n
      dsimp only
      split
      · exact a.trans b (by omega) (by omega)
      · exact a.trans (Near.refl 0 0 _ _) (by omega) (by omega)
  · exact Near.refl ..
theorem near_save (s : PS) (h : HS) (n : Int) (t : Bytes) : Near 1 1 s h (saveP s h n t).2.1 (saveP s h n t).2.2 := by
  unfold saveP
  split
  · split
    · split
      · exact near_use (Near.refl 1 1 s h) _
      · have a := near_room s h
        dsimp only
        split
        · exact near_use a _
        · exact a
    · exact Near.refl ..
  · exact Near.refl ..
theorem near_flushL : ∀ (l : List Int) (s : PS) (h : HS), Near l.length l.length s h (flushL l s h).2.1 (flushL l s h).2.2
  | [], s, h => Near.refl ..
  | n :: r, s, h => by
    unfold flushL
    have w := near_write s h n
    split
    · dsimp only
      split
      · exact w.trans (near_flushL r _ _) (by simp; omega) (by simp; omega)
      · exact w.trans (Near.refl 0 0 _ _) (by simp) (by simp)
    · exact (near_flushL r s h).trans (Near.refl 0 0 _ _) (by simp) (by simp)
theorem near_flush {s : PS} (hk : Ok s) (h : HS) : Near 16 16 s h (flushP s h).2.1 (flushP s h).2.2 := by
  unfold flushP
  split
  · have a := near_flushL ((numbers s).mergeSort fun x y => decide (x ≤ y)) s h
    have hl : ((numbers s).mergeSort fun x y => decide (x ≤ y)).length ≤ 16 := by
      rw [List.length_mergeSort]
      have := hk.many; have := hk.w1
      unfold numbers; rw [List.length_map]; omega
    exact a.trans (Near.refl 0 0 _ _) (by omega) (by omega)
  · exact Near.refl ..
/-- A host without faults, up. -/
structure Calm (h : HS) : Prop where
  up : h.down = false
  calm : ∀ k, h.coming k = []
theorem does_calm {h : HS} (hc : Calm h) (op n : Int) (b : Bytes) (act : HS → HS) : does h op n b act = (act (logged h op n b), 0) := by
  unfold does
  rw [if_neg (by rw [hc.up]; simp), hc.calm h.ops]
  rfl
theorem calm_logged {h : HS} (hc : Calm h) (op n : Int) (b : Bytes) : Calm (logged h op n b) := ⟨hc.up, fun k => by
  show setF h.coming h.ops [] k = []
  unfold setF
  split
  · rfl
  · exact hc.calm k⟩
theorem writeR_calm {h : HS} (hc : Calm h) {n : Int} {b : Bytes} (ht : there h n) (hl : b.length = h.size) : writeR h n b = (0, wrote n b (logged h 1 n b)) := by
  unfold writeR
  rw [if_pos ht, if_pos hl, does_calm hc]
theorem readR_calm {h : HS} (hc : Calm h) {n : Int} (ht : there h n) : readR h n = (back h n 0, 0, logged h 0 n []) := by
  unfold readR
  rw [if_pos ht, does_calm hc]
  dsimp only
  rw [if_pos rfl, hc.calm]; rfl
structure Quiet (s : PS) (h : HS) (b : Int → Bytes) : Prop where
  sound : Sound s h b
  calm : Calm h
  err : s.err = 0
section
variable {s : PS} {h : HS} {b : Int → Bytes}
theorem Quiet.write (hq : Quiet s h b) (hw : s.writes < 4294967295) {n : Int} (hn : n ∈ numbers s) : (writeP s h n).1 = 0 ∧ Quiet (writeP s h n).2.1 (writeP s h n).2.2 b := by
  obtain ⟨f, hf⟩ := frOf_of hn
  obtain ⟨f1, f2⟩ := frOf_mem hf
  obtain ⟨p1, p2⟩ := hq.sound.ok.there f f1
  have ht : there h n := ⟨by omega, by rw [hq.sound.over.pages]; omega⟩
  have hl : (boxOf s n).length = h.size := by
    unfold boxOf textOf
    rw [pgSealB_len, hf, hq.sound.over.size]
    have := hq.sound.ok.len f f1
    simp [this]
  have hr := writeR_calm hq.calm ht hl
  have h0 : (writeP s h n).1 = 0 := by
    unfold writeP
    rw [if_neg (by omega), hr]
    rfl
  obtain ⟨_, hz, e⟩ := writeP_zero h0
  refine ⟨h0, hq.sound.write hq.err hn, ?_, ?_⟩
  · rw [e, hr]
    have := calm_logged hq.calm 1 n (boxOf s n)
    exact ⟨this.up, this.calm⟩
  · rw [e]; exact hq.err
theorem Quiet.room (hq : Quiet s h b) (hw : s.writes < 4294967295) : (roomP s h).1 = 0 ∧ Quiet (roomP s h).2.1 (roomP s h).2.2 b := by
  have key : (roomP s h).1 = 0 ∧ Calm (roomP s h).2.2 := by
    unfold roomP
    split
    · exact ⟨rfl, hq.calm⟩
    · rename_i hl
      dsimp only
      split
      · rename_i hc
        have hn : (s.held.head?.map Fr.page).getD 0 ∈ numbers s := by
          by_cases hh : (s.held.head?.map Fr.page).getD 0 ∈ numbers s
          · exact hh
          · rw [changed_no hh] at hc; cases hc
        obtain ⟨w1, w2⟩ := hq.write hw hn
        rw [if_pos w1]
        exact ⟨rfl, w2.calm⟩
      · exact ⟨rfl, hq.calm⟩
  obtain ⟨q1, q2, q3⟩ := hq.sound.room hq.err
  exact ⟨key.1, q1, key.2, q2 key.1⟩
theorem Quiet.save (hq : Quiet s h b) (hw : s.writes < 4294967295) {n : Int} (h0 : 0 ≤ n) (h1 : n < s.pages) {t : Bytes} (ht : t.length = s.text) : (saveP s h n t).1 = 0 ∧ Quiet (saveP s h n t).2.1 (saveP s h n t).2.2 (setF b n t) := by
  have hr : rightP s n = 0 := by
    unfold rightP
    rw [if_neg (by rw [hq.err]; simp), if_neg (by omega)]
  have key : (saveP s h n t).1 = 0 ∧ Calm (saveP s h n t).2.2 := by
    unfold saveP
    rw [if_pos hr, if_pos ht]
    cases hf : frOf s n with
    | some f => exact ⟨rfl, hq.calm⟩
    | none =>
      dsimp only
      obtain ⟨r1, r2⟩ := hq.room hw
      rw [if_pos r1]
      exact ⟨rfl, r2.calm⟩
  obtain ⟨q1, q2, q3, q4, q5⟩ := hq.sound.save n t
  rw [if_pos key.1] at q1
  exact ⟨key.1, q1, key.2, (q2 key.1).2.2⟩
theorem quiet_fresh {key : Bytes} {round : BitVec 64} {window : Nat} {pages : Int} {text : Nat} (hk : Ok (freshP key round window pages text)) {h : HS} (hp : h.pages = pages) (hz : h.size = text + 28) (hc : Calm h) : Quiet (freshP key round window pages text) h (fun _ => List.replicate text 0#8) :=
  ⟨sound_fresh hk hp hz (fun k f hf => by rw [hc.calm k] at hf; cases hf), hc, rfl⟩
end
theorem calm_fresh (pages : Int) (size : Nat) : Calm (fresh pages size []) := ⟨rfl, fun _ => rfl⟩
end Go.Sl.PagerS

/- pager: how often a host is asked; what a host saw of a pager. No program in sight. -/
set_option linter.unusedVariables false
set_option linter.unusedSimpArgs false
namespace Go.Sl.PagerS
open Go Go.Sl Go.Sl.HostS
attribute [local irreducible] pgSealB pgOpenR
/-- How many held pages are changed. -/
def chg (s : PS) : Nat := s.held.countP fun f => f.is == 2
def pot (s : PS) (h : HS) : Nat := h.ops + chg s + (if s.err = 0 then 1 else 0)
section
variable {s : PS} {h : HS}
theorem chg_cleaned {l : List Fr} (hn : (l.map Fr.page).Nodup) {f : Fr} (hf : f ∈ l) (hc : f.is = 2) : (cleaned l f.page).countP (fun g => g.is == 2) + 1 ≤ l.countP fun g => g.is == 2 := by
  induction l with
  | nil => cases hf
  | cons x r ih =>
    rw [List.map_cons, List.nodup_cons] at hn
    unfold cleaned at ih ⊢
    rw [List.map_cons, List.countP_cons, List.countP_cons]
    rcases List.mem_cons.1 hf with e|hf
    · subst e
      rw [if_pos rfl]
      have : (r.map fun g => if g.page = f.page then { g with is := 1 } else g) = r := by
        conv => rhs; rw [← List.map_id r]
        apply List.map_congr_left
        intro g hg
        rw [if_neg (fun hh => hn.1 (by rw [← hh]; exact List.mem_map.2 ⟨g, hg, rfl⟩))]; rfl
      rw [this]
      simp [hc]
    · have := ih hn.2 hf
      have hne : ¬ x.page = f.page := fun hh => hn.1 (by rw [hh]; exact List.mem_map.2 ⟨f, hf, rfl⟩)
      rw [if_neg hne]
      omega
theorem chg_filter {l : List Fr} {f : Fr} (hf : f ∈ l) : (l.filter fun g => !(g.page == f.page)).countP (fun g => g.is == 2) + (if f.is = 2 then 1 else 0) ≤ l.countP fun g => g.is == 2 := by
  induction l with
  | nil => cases hf
  | cons x r ih =>
    have mono : (r.filter fun g => !(g.page == f.page)).countP (fun g => g.is == 2) ≤ r.countP fun g => g.is == 2 := List.Sublist.countP_le (List.filter_sublist)
    rcases List.mem_cons.1 hf with e|hf
    · subst e
      rw [List.filter_cons_of_neg (by simp), List.countP_cons]
      have : (if (f.is == 2) = true then 1 else 0) = (if f.is = 2 then 1 else 0) := by by_cases h2 : f.is = 2 <;> simp [h2]
      omega
    · have := ih hf
      by_cases e : x.page = f.page
      · rw [List.filter_cons_of_neg (by simp [e]), List.countP_cons]; omega
      · rw [List.filter_cons_of_pos (by simp [e]), List.countP_cons, List.countP_cons]; omega
theorem chg_filter_le (l : List Fr) (n : Int) : (l.filter fun g => !(g.page == n)).countP (fun g => g.is == 2) ≤ l.countP fun g => g.is == 2 := List.Sublist.countP_le (List.filter_sublist)
theorem pot_use (f : Fr) : pot (useP s f) h ≤ pot s h + 1 := by
  have := chg_filter_le s.held f.page
  unfold pot chg useP
  dsimp only
  rw [List.countP_append, List.countP_cons, List.countP_nil]
  split <;> split <;> omega
theorem pot_use0 {f : Fr} (hf : f ∈ s.held ∨ f.is ≠ 2) : pot (useP s f) h ≤ pot s h := by
  unfold pot chg useP
  dsimp only
  rw [List.countP_append, List.countP_cons, List.countP_nil]
  rcases hf with hf|hf
  · have := chg_filter hf
    have e : (if (f.is == 2) = true then 1 else 0) = (if f.is = 2 then 1 else 0) := by by_cases h2 : f.is = 2 <;> simp [h2]
    omega
  · have := chg_filter_le s.held f.page
    have e : (if (f.is == 2) = true then 1 else 0) = 0 := by simp [hf]
    omega
theorem pot_write (hk : Ok s) (h0 : s.err = 0) {n : Int} (hc : changedAt s n = true) : pot (writeP s h n).2.1 (writeP s h n).2.2 ≤ pot s h := by
  have ho := (near_write s h n).ops
  obtain ⟨f, hf⟩ : ∃ f, frOf s n = some f := by
    cases hf : frOf s n with
    | some f => exact ⟨f, rfl⟩
    | none => unfold changedAt at hc; rw [hf] at hc; cases hc
  obtain ⟨f1, f2⟩ := frOf_mem hf
  have h2 : f.is = 2 := by unfold changedAt at hc; rw [hf] at hc; simpa using hc
  by_cases he : (writeP s h n).1 = 0
  · obtain ⟨_, _, e⟩ := writeP_zero he
    have hcl := chg_cleaned hk.once f1 h2
    rw [f2] at hcl
    have e1 : chg (writeP s h n).2.1 + 1 ≤ chg s := by rw [e]; exact hcl
    have e2 : (writeP s h n).2.1.err = s.err := by rw [e]; rfl
    unfold pot
    rw [e2]
    omega
  · obtain ⟨_, e⟩ := writeP_errs s h n he
    have e1 : chg (writeP s h n).2.1 = chg s := by rw [e]; rfl
    have e2 : (writeP s h n).2.1.err = (writeP s h n).1 := by rw [e]; rfl
    unfold pot
    rw [e1, e2, if_neg he, if_pos h0]
    omega
theorem pot_tail : pot { s with held := s.held.tail } h ≤ pot s h := by
  have : (s.held.tail.countP fun f => f.is == 2) ≤ s.held.countP fun f => f.is == 2 := List.Sublist.countP_le (List.tail_sublist _)
  unfold pot chg
  dsimp only
  omega
theorem pot_room (hk : Ok s) (h0 : s.err = 0) : pot (roomP s h).2.1 (roomP s h).2.2 ≤ pot s h := by
  unfold roomP
  split
  · exact Nat.le_refl _
  · dsimp only
    split
    · rename_i hc
      have hw := pot_write (h := h) hk h0 hc
      split
      · exact Nat.le_trans pot_tail hw
      · exact hw
    · exact pot_tail
theorem pot_fetch (h0 : s.err = 0) (n : Int) : pot (fetchP s h n).2.1 (fetchP s h n).2.2 ≤ pot s h + 1 := by
  have ho := readR_ops h n
  have hr : pot s (readR h n).2.2 ≤ pot s h + 1 := by unfold pot; omega
  unfold fetchP
  split
  · dsimp only
    have hd : ∀ e, e ≠ 0 → pot (die s e) (readR h n).2.2 ≤ pot s h + 1 := fun e he => by
      unfold pot die chg
      dsimp only
      rw [if_neg he]
      omega
    split
    · split
      · exact Nat.le_trans (pot_use0 (.inr (show (1 : Nat) ≠ 2 by omega))) hr
      · rename_i hz; exact hd _ hz
    · rename_i hz; exact hd _ hz
  · exact Nat.le_trans (pot_use0 (f := ⟨n, List.replicate s.text 0#8, 0⟩) (.inr (show (0 : Nat) ≠ 2 by omega))) (Nat.le_succ _)
theorem room_err (hk : Ok s) (h0 : s.err = 0) (hz : (roomP s h).1 = 0) : (roomP s h).2.1.err = 0 := by
  unfold roomP at hz ⊢
  split
  · exact h0
  · rename_i hl
    rw [if_neg hl] at hz
    dsimp only at hz ⊢
    split
    · rename_i hc
      rw [if_pos hc] at hz
      split
      · rename_i hw
        obtain ⟨_, _, e⟩ := writeP_zero hw
        rw [e]; exact h0
      · rename_i hw; rw [if_neg hw] at hz; exact absurd hz hw
    · exact h0
theorem pot_load (hk : Ok s) (n : Int) : pot (loadP s h n).2.1 (loadP s h n).2.2 ≤ pot s h + 1 := by
  unfold loadP
  split
  · rename_i hr
    have h0 := (right_zero hr).1
    split
    · rename_i f hf
      exact Nat.le_trans (pot_use0 (.inl (frOf_mem hf).1)) (Nat.le_succ _)
    · have a := pot_room (h := h) hk h0
      dsimp only
      split
      · rename_i hz
        exact Nat.le_trans (pot_fetch (room_err hk h0 hz) n) (Nat.succ_le_succ a)
      · exact Nat.le_trans a (Nat.le_succ _)
  · exact Nat.le_succ _
theorem pot_save (hk : Ok s) (n : Int) (t : Bytes) : pot (saveP s h n t).2.1 (saveP s h n t).2.2 ≤ pot s h + 1 := by
  unfold saveP
  split
  · rename_i hr
    have h0 := (right_zero hr).1
    split
    · split
      · exact pot_use _
      · have a := pot_room (h := h) hk h0
        dsimp only
        split
        · exact Nat.le_trans (pot_use _) (Nat.succ_le_succ a)
        · exact Nat.le_trans a (Nat.le_succ _)
    · exact Nat.le_succ _
  · exact Nat.le_succ _
theorem ok_write (hk : Ok s) (n : Int) : Ok (writeP s h n).2.1 := by
  by_cases he : (writeP s h n).1 = 0
  · obtain ⟨hw, _, e⟩ := writeP_zero he
    have := hk.writes
    rw [e]; exact ok_wrote hk n (by omega)
  · obtain ⟨e1, e⟩ := writeP_errs s h n he
    rw [e]; exact ok_die hk _ e1
theorem pot_flushL : ∀ (l : List Int) (s : PS) (h : HS), Ok s → s.err = 0 → pot (flushL l s h).2.1 (flushL l s h).2.2 ≤ pot s h
  | [], s, h, _, _ => Nat.le_refl _
  | n :: r, s, h, hk, h0 => by
    unfold flushL
    split
    · rename_i hc
      have a := pot_write (h := h) hk h0 hc
      dsimp only
      split
      · rename_i hz
        obtain ⟨_, _, e⟩ := writeP_zero hz
        exact Nat.le_trans (pot_flushL r _ _ (ok_write hk n) (by rw [e]; exact h0)) a
      · exact a
    · exact pot_flushL r s h hk h0
theorem pot_flush (hk : Ok s) : pot (flushP s h).2.1 (flushP s h).2.2 ≤ pot s h := by
  unfold flushP
  split
  · rename_i h0; exact pot_flushL _ s h hk h0
  · exact Nat.le_refl _
theorem pot_ops (s : PS) (h : HS) : h.ops ≤ pot s h := by unfold pot; omega
end
end Go.Sl.PagerS

/- pager: how what a host saw begins. No program in sight. -/
set_option linter.unusedVariables false
set_option linter.unusedSimpArgs false
namespace Go.Sl.PagerS
open Go Go.Sl Go.Sl.HostS
attribute [local irreducible] pgSealB pgOpenR
def wrs (l : List HostS.Touch) : Nat := l.countP fun t => t.op == 1
/-- A touch behind others. -/
def Entry (r : BitVec 64) (pages : Int) (size : Nat) (was : List HostS.Touch) (t : HostS.Touch) : Prop :=
  t.len = size ∧ 0 ≤ t.page ∧ t.page < pages ∧ ((t.op = 0 ∧ t.head = List.replicate 12 0#8 ∧ ∃ u ∈ was, u.op = 1 ∧ u.page = t.page) ∨ (t.op = 1 ∧ t.head = leB r 8 ++ leB (BitVec.ofNat 32 (wrs was)) 4))
def Heads (r : BitVec 64) (pages : Int) (size : Nat) (l : List HostS.Touch) : Prop := ∀ i (hi : i < l.length), Entry r pages size (l.take i) l[i]
theorem Heads.snoc {r : BitVec 64} {pages : Int} {size : Nat} {l : List HostS.Touch} {t : HostS.Touch} (h : Heads r pages size l) (ht : Entry r pages size l t) : Heads r pages size (l ++ [t]) := by
  intro i hi
  by_cases e : i < l.length
  · rw [List.getElem_append_left e, List.take_append_of_le_length (Nat.le_of_lt e)]
    exact h i e
  · have e : i = l.length := by rw [List.length_append, List.length_singleton] at hi; omega
    subst e
    rw [List.getElem_append_right (Nat.le_refl _), List.take_left]
    simpa using ht
structure HI (s : PS) (h : HS) : Prop where
  heads : Heads s.round s.pages h.size h.log
  now : s.err = 0 → wrs h.log = s.writes
  then_ : wrs h.log = s.writes ∨ (wrs h.log = s.writes + 1 ∧ s.err = 110)
  last : ∀ n pl, s.last n = some pl → ∃ u ∈ h.log, u.op = 1 ∧ u.page = n
  over : Over s h
theorem does_log (h : HS) (op n : Int) (b : Bytes) (act : HS → HS) (ha : ∀ g, (act g).log = g.log) : ((does h op n b act).1.log = h.log ∧ (does h op n b act).2 = 110) ∨ ((does h op n b act).1.log = h.log ++ [touchOf h op n b] ∧ ((does h op n b act).2 = 0 ∨ (does h op n b act).2 = 110)) := by
  unfold does
  split
  · exact .inl ⟨rfl, rfl⟩
  · dsimp only
    split
    · exact .inl ⟨rfl, rfl⟩
    · split
      · exact .inr ⟨ha _, .inr rfl⟩
      · exact .inr ⟨ha _, .inl rfl⟩
theorem headOf_box (key : Bytes) (p : Plc) (t : Bytes) : headOf (pgSealB key p t) = headB p := by
  unfold headOf
  rw [pgSeal_head, pgSealB_len, show 12 - (t.length + 28) = 0 by omega]; simp
section
variable {s : PS} {h : HS}
theorem HI.there (hi : HI s h) {n : Int} (h0 : 0 ≤ n) (h1 : n < s.pages) : there h n := ⟨h0, by rw [hi.over.pages]; exact h1⟩
theorem box_len (hk : Ok s) {n : Int} (hn : n ∈ numbers s) : (boxOf s n).length = s.text + 28 ∧ 0 ≤ n ∧ n < s.pages := by
  obtain ⟨f, hf⟩ := frOf_of hn
  obtain ⟨f1, f2⟩ := frOf_mem hf
  have := hk.len f f1
  have hp := hk.there f f1
  refine ⟨?_, by omega, by omega⟩
  unfold boxOf textOf
  rw [pgSealB_len, hf]
  simp [this]
theorem HI.write (hi : HI s h) (hk : Ok s) (h0 : s.err = 0) {n : Int} (hn : n ∈ numbers s) : HI (writeP s h n).2.1 (writeP s h n).2.2 := by
  obtain ⟨b1, b2, b3⟩ := box_len hk hn
  have ht := hi.there b2 b3
  have hnow := hi.now h0
  have ho' := (near_write s h n).over hi.over
  have hw : writeR h n (boxOf s n) = ((does h 1 n (boxOf s n) (wrote n (boxOf s n))).2, (does h 1 n (boxOf s n) (wrote n (boxOf s n))).1) := by
    unfold writeR
    rw [if_pos ht, if_pos (b1.trans hi.over.size.symm)]
  have htouch : touchOf h 1 n (boxOf s n) = ⟨1, n, h.size, headB (nextPl s n)⟩ := by
    unfold touchOf
    rw [if_pos rfl]
    unfold boxOf
    rw [headOf_box]
  have hent : Entry s.round s.pages h.size h.log (touchOf h 1 n (boxOf s n)) := by
    rw [htouch]
    refine ⟨rfl, b2, b3, .inr ⟨rfl, ?_⟩⟩
    rw [hnow]; rfl
  have hlw : ∀ l, l = h.log ++ [touchOf h 1 n (boxOf s n)] → wrs l = wrs h.log + 1 := by
    intro l hl
    rw [hl, htouch]
    unfold wrs
    rw [List.countP_append]
    simp
  have hz : (writeP s h n).2.2.size = h.size := (near_write s h n).size
  have hlg := does_log h 1 n (boxOf s n) (wrote n (boxOf s n)) fun _ => rfl
  by_cases he : (writeP s h n).1 = 0
  · obtain ⟨hwn, hwz, e⟩ := writeP_zero he
    rw [hw] at hwz
    dsimp only at hwz
    have hl : (writeP s h n).2.2.log = h.log ++ [touchOf h 1 n (boxOf s n)] := by
      rw [e, hw]
      rcases hlg with ⟨_, hx⟩|⟨hx, _⟩
      · rw [hwz] at hx; cases hx
      · exact hx
    refine ⟨?_, ?_, ?_, ?_, ho'⟩
    · rw [hz, hl, e]; exact hi.heads.snoc hent
    · intro _; rw [hlw _ hl, hnow, e]; rfl
    · left; rw [hlw _ hl, hnow, e]; rfl
    · intro m pl hm
      rw [hl]
      by_cases em : m = n
      · exact ⟨touchOf h 1 n (boxOf s n), by simp, by rw [htouch], by rw [htouch, em]⟩
      · rw [e] at hm
        have : (wroteP s n).last m = s.last m := by unfold wroteP setF; simp [em]
        dsimp only at hm
        rw [this] at hm
        obtain ⟨u, u1, u2⟩ := hi.last m pl hm
        exact ⟨u, List.mem_append_left _ u1, u2⟩
  · obtain ⟨_, e⟩ := writeP_errs s h n he
    have hlast : ∀ L : List HostS.Touch, (∀ u ∈ h.log, u ∈ L) → ∀ m pl, (writeP s h n).2.1.last m = some pl → ∃ u ∈ L, u.op = 1 ∧ u.page = m := by
      intro L hL m pl hm
      rw [e] at hm
      obtain ⟨u, u1, u2⟩ := hi.last m pl hm
      exact ⟨u, hL u u1, u2⟩
    have hwr : (writeP s h n).2.1.writes = s.writes := by rw [e]; rfl
    have herr : (writeP s h n).2.1.err = (writeP s h n).1 := by rw [e]; rfl
    have hro : (writeP s h n).2.1.round = s.round ∧ (writeP s h n).2.1.pages = s.pages := by rw [e]; exact ⟨rfl, rfl⟩
    have hcase : ((writeP s h n).2.2.log = h.log) ∨ ((writeP s h n).2.2.log = h.log ++ [touchOf h 1 n (boxOf s n)] ∧ (writeP s h n).1 = 110) := by
      by_cases hwn : s.writes = 4294967295
      · left
        unfold writeP
        rw [if_pos hwn]
      · have e3 : writeP s h n = if (writeR h n (boxOf s n)).1 = 0 then (0, wroteP s n, (writeR h n (boxOf s n)).2) else ((writeR h n (boxOf s n)).1, die s (writeR h n (boxOf s n)).1, (writeR h n (boxOf s n)).2) := by
          unfold writeP
          rw [if_neg hwn]
        rw [e3] at he ⊢
        rw [hw] at he ⊢
        dsimp only at he ⊢
        split at he
        · exact absurd rfl he
        · rename_i hne
          rw [if_neg hne]
          rcases hlg with ⟨hx, _⟩|⟨hx, hy⟩
          · exact .inl hx
          · rcases hy with hy|hy
            · exact absurd hy hne
            · exact .inr ⟨hx, hy⟩
    rcases hcase with hl|⟨hl, h110⟩
    · refine ⟨by rw [hz, hl, hro.1, hro.2]; exact hi.heads, fun hh => absurd (herr ▸ hh) he, .inl (by rw [hl, hwr]; exact hnow), by rw [hl]; exact hlast _ fun _ h => h, ho'⟩
    · refine ⟨by rw [hz, hl, hro.1, hro.2]; exact hi.heads.snoc hent, fun hh => absurd (herr ▸ hh) he, .inr ⟨by rw [hlw _ hl, hwr, hnow], by rw [herr]; exact h110⟩, by rw [hl]; exact hlast _ fun _ h => List.mem_append_left _ h, ho'⟩
theorem HI.held (hi : HI s h) (l : List Fr) (m : Nat) : HI { s with held := l, most := m } h := ⟨hi.heads, hi.now, hi.then_, hi.last, ⟨hi.over.pages, hi.over.size⟩⟩
theorem HI.room (hi : HI s h) (hk : Ok s) (h0 : s.err = 0) : HI (roomP s h).2.1 (roomP s h).2.2 := by
  unfold roomP
  split
  · exact hi
  · dsimp only
    split
    · rename_i hc
      have hn : (s.held.head?.map Fr.page).getD 0 ∈ numbers s := by
        by_cases hh : (s.held.head?.map Fr.page).getD 0 ∈ numbers s
        · exact hh
        · rw [changed_no hh] at hc; cases hc
      have hw := hi.write hk h0 hn
      split
      · exact hw.held _ _
      · exact hw
    · exact hi.held _ _
theorem readR_log (h : HS) (n : Int) (ht : HostS.there h n) : (readR h n).2.2.log = h.log ∨ (readR h n).2.2.log = h.log ++ [⟨0, n, h.size, List.replicate 12 0#8⟩] := by
  have e : (readR h n).2.2 = (does h 0 n [] id).1 := by
    unfold readR
    rw [if_pos ht]
    dsimp only
    split <;> rfl
  rw [e]
  rcases does_log h 0 n [] id fun _ => rfl with ⟨hx, _⟩|⟨hx, _⟩
  · exact .inl hx
  · exact .inr hx
theorem HI.read (hi : HI s h) {n : Int} (h0 : 0 ≤ n) (h1 : n < s.pages) {pl : Plc} (hl : s.last n = some pl) : HI s (readR h n).2.2 := by
  have hs := readR_same h n
  have ho : Over s (readR h n).2.2 := ⟨hs.1.trans hi.over.pages, hs.2.trans hi.over.size⟩
  rcases readR_log h n (hi.there h0 h1) with e|e
  · exact ⟨by rw [e, hs.2]; exact hi.heads, by rw [e]; exact hi.now, by rw [e]; exact hi.then_, by rw [e]; exact hi.last, ho⟩
  · have hw : wrs (h.log ++ [⟨0, n, h.size, List.replicate 12 0#8⟩]) = wrs h.log := by unfold wrs; rw [List.countP_append]; simp
    refine ⟨?_, by rw [e, hw]; exact hi.now, by rw [e, hw]; exact hi.then_, ?_, ho⟩
    · rw [e, hs.2]
      exact hi.heads.snoc ⟨rfl, h0, h1, .inl ⟨rfl, rfl, hi.last n pl hl⟩⟩
    · intro m pl hm
      rw [e]
      obtain ⟨u, u1, u2⟩ := hi.last m pl hm
      exact ⟨u, List.mem_append_left _ u1, u2⟩
theorem HI.die (hi : HI s h) (h0 : s.err = 0) (e : Nat) : HI (die s e) h := by
  exact ⟨hi.heads, fun _ => hi.now h0, .inl (hi.now h0), hi.last, ⟨hi.over.pages, hi.over.size⟩⟩
theorem HI.use (hi : HI s h) (f : Fr) : HI (useP s f) h := hi.held _ _
theorem HI.fetch (hi : HI s h) (h0 : s.err = 0) {n : Int} (hp : 0 ≤ n ∧ n < s.pages) : HI (fetchP s h n).2.1 (fetchP s h n).2.2 := by
  unfold fetchP
  split
  · rename_i pl hl
    have hr := hi.read hp.1 hp.2 hl
    dsimp only
    split
    · split
      · exact hr.use _
      · exact hr.die h0 _
    · exact hr.die h0 _
  · exact hi.use _
theorem HI.load (hi : HI s h) (hk : Ok s) (n : Int) : HI (loadP s h n).2.1 (loadP s h n).2.2 := by
  unfold loadP
  split
  · rename_i hr
    obtain ⟨h0, hp⟩ := right_zero hr
    split
    · exact hi.use _
    · have a := hi.room hk h0
      dsimp only
      split
      · rename_i hz
        exact a.fetch (room_err hk h0 hz) (by rw [(near_room s h).spages]; exact hp)
      · exact a
  · exact hi
theorem HI.save (hi : HI s h) (hk : Ok s) (n : Int) (t : Bytes) : HI (saveP s h n t).2.1 (saveP s h n t).2.2 := by
  unfold saveP
  split
  · rename_i hr
    obtain ⟨h0, hp⟩ := right_zero hr
    split
    · split
      · exact hi.use _
      · have a := hi.room hk h0
        dsimp only
        split
        · exact a.use _
        · exact a
    · exact hi
  · exact hi
theorem HI.flushL : ∀ (l : List Int) (s : PS) (h : HS), HI s h → Ok s → s.err = 0 → HI (flushL l s h).2.1 (flushL l s h).2.2
  | [], s, h, hi, _, _ => hi
  | n :: r, s, h, hi, hk, h0 => by
    unfold PagerS.flushL
    split
    · rename_i hc
      have hn : n ∈ numbers s := by
        by_cases hh : n ∈ numbers s
        · exact hh
        · rw [changed_no hh] at hc; cases hc
      have a := hi.write hk h0 hn
      dsimp only
      split
      · rename_i hz
        obtain ⟨_, _, e⟩ := writeP_zero hz
        exact HI.flushL r _ _ a (ok_write hk n) (by rw [e]; exact h0)
      · exact a
    · exact HI.flushL r s h hi hk h0
theorem HI.flush (hi : HI s h) (hk : Ok s) : HI (flushP s h).2.1 (flushP s h).2.2 := by
  unfold flushP
  split
  · rename_i h0; exact HI.flushL _ s h hi hk h0
  · exact hi
theorem hi_fresh {key : Bytes} {round : BitVec 64} {window : Nat} {pages : Int} {text : Nat} {h : HS} (hl : h.log = []) (ho : Over (freshP key round window pages text) h) : HI (freshP key round window pages text) h :=
  ⟨(by rw [hl]; intro i hi; simp at hi), fun _ => (by rw [hl]; rfl), .inl (by rw [hl]; rfl), fun n pl hh => (by cases hh), ho⟩
end
end Go.Sl.PagerS

/- pager: two pagers that are asked alike are seen alike, whatever stands on their pages. No program in sight. -/
set_option linter.unusedVariables false
set_option linter.unusedSimpArgs false
namespace Go.Sl.PagerS
open Go Go.Sl Go.Sl.HostS
attribute [local irreducible] pgSealB pgOpenR
section
variable {s t : PS} {h g : HS}
end
section
variable {s t : PS} {h g : HS} {b : Int → Bytes}
end
end Go.Sl.PagerS

/- trystlaw13.Life opened. -/
set_option linter.unusedVariables false
set_option linter.unusedSimpArgs false
set_option maxHeartbeats 2000000
namespace Go.Sl
open Go Go.Proofs Go.ChangeShapes Go.WideShapes Go.ChangeAt Go.RowKit
structure FaultV where
  at_ : Int
  kind_ : Int
  page_ : Int
  byte_ : Int
  by_ : BitVec 8
  back_ : Int
def FaultV.cells (x : FaultV) : List Value := [.int .i64 x.at_] ++ ([.int .i64 x.kind_] ++ ([.int .i64 x.page_] ++ ([.int .i64 x.byte_] ++ ([u8b x.by_] ++ ([.int .i64 x.back_])))))
section
variable {H : Type} {enc : TypeId × Value → H} {w : World} {base : Nat} {spare : Nat → Bool} {held : Bool}
end
section
variable {H : Type} {enc : TypeId × Value → H} {w : World} {base : Nat} {spare : Nat → Bool} {held : Bool}
end
structure OpV where
  kind_ : Int
  page_ : Int
  text_V : Value
  text_ : List Byte
def OpV.cells (x : OpV) : List Value := [.int .i64 x.kind_] ++ ([.int .i64 x.page_] ++ ([x.text_V]))
section
variable {H : Type} {enc : TypeId × Value → H} {w : World} {base : Nat} {spare : Nat → Bool} {held : Bool}
end
section
variable {H : Type} {enc : TypeId × Value → H} {w : World} {base : Nat} {spare : Nat → Bool} {held : Bool}
end
structure PLifeV where
  pages_ : Int
  size_ : Int
  window_ : Int
  key_ : List Byte
  round_ : BitVec 64
  faults_V : Value
  faults_ : List FaultV
  script_V : Value
  script_ : List OpV
def PLifeV.cells (x : PLifeV) : List Value := [.int .i64 x.pages_] ++ ([.int .i64 x.size_] ++ ([.int .i64 x.window_] ++ (x.key_.map u8b ++ ([u64b x.round_] ++ ([x.faults_V] ++ ([x.script_V]))))))
section
variable {H : Type} {enc : TypeId × Value → H} {w : World} {base : Nat} {spare : Nat → Bool} {held : Bool}
end
end Go.Sl

/- trystlaw13: a life's cells; made, right, walked; lists of ints compared. -/
set_option maxHeartbeats 4000000
set_option maxRecDepth 10000
set_option linter.unusedVariables false
set_option linter.unusedSimpArgs false
namespace Go.Sl
open Go Go.Proofs
attribute [local irreducible] pt pur ex all den denOps denS xOps xC cX CX xthen xblk xcut xloop xng retX resX Calls PV Rd Con
attribute [local irreducible] hostA pgA
open PagerS (PS Over)
theorem eqInts_x {L : List Asrt} {va vb : Value} {a b : List Int} (ha : Rd L 1 va a.length (zv a)) (hb : Rd L 1 vb b.length (zv b)) (hal : a.length ≤ 9223372036854775807) (hbl : b.length ≤ 9223372036854775807) : Con Tryz.prog 31 [va, vb] L (fun v M => v = .bool (decide (a = b)) ∧ L = M) := by
  refine Con.get (fun w0 w F H => ha.len H) ?_
  rintro ⟨aa, ac, rfl⟩
  refine Con.get (fun w0 w F H => hb.len H) ?_
  rintro ⟨ba, bc, rfl⟩
  by_cases hl : a.length = b.length
  · refine fn_x Tryz.func31 rfl rfl rfl Tryz.mixed (by kernel_rfl) ?_
    intro w0
    refine Y9 ?_
    refine Zhn 10 rfl (decide_eq_false (fun hh => hh hl)) ?_
    refine V5 ?_
    refine Zgo [(4, 5), (11, 25)] (by kernel_rfl) (fun i : Nat => i ≤ a.length ∧ a.take i = b.take i) (fun _ => L) (fun i => [(5, nvv i)]) (fun i => a.length - i) 0 ⟨by omega, rfl⟩ (Imp.refl _) ⟨rfl, trivial⟩ ?_
    rintro i u ⟨hi, he⟩
    refine V6 ?_
    refine Zgg rfl (fun hB => ?_) (fun hB => ?_)
    · have hib : i < b.length := by omega
      refine Zgt (fun F w H => ha.someAt (by omega) H) ?_
      rintro ⟨a1, a2, rfl⟩
      refine Zgt (fun F w H => hb.someAt (by omega) H) ?_
      rintro ⟨b1, b2, rfl⟩
      by_cases hz : a[i] = b[i]
      · refine Ct.o ?_
        refine Zij (_) [7] (.q 0 (.q 1 (.q 2 (.q 4 (.q 5 (.q 6 (.r 3 (.r 7 (.q 8 .nil))))))))) (by kernel_rfl) (by kernel_rfl) (Imp.refl _) ?_
        refine W6 ?_
        refine Zfh rfl rfl ((ha.at hB (getM (f := Value.int .i64) hB))) ?_
        refine Zfh rfl rfl ((hb.at hib (getM (f := Value.int .i64) hib))) ?_
        refine Zim rfl (Zbs (a := a[i]) (b := b[i]) rfl rfl) ?_
        refine Zi6 25 rfl (decide_eq_false (fun hh => hh hz)) ?_
        refine Zik ?_
        refine V6 ?_
        exact Zgl (i + 1) qO ⟨by omega, by rw [List.take_succ_eq_append_getElem hB, List.take_succ_eq_append_getElem hib, he, hz]⟩ qI ⟨rfl, trivial⟩
      · refine Ct.o ?_
        refine Zij (_) [7] (.q 0 (.q 1 (.q 2 (.q 4 (.q 5 (.q 6 (.r 3 (.r 7 (.q 8 .nil))))))))) (by kernel_rfl) (by kernel_rfl) (Imp.refl _) ?_
        refine W6 ?_
        refine Zfh rfl rfl ((ha.at hB (getM (f := Value.int .i64) hB))) ?_
        refine Zfh rfl rfl ((hb.at hib (getM (f := Value.int .i64) hib))) ?_
        refine Zim rfl (Zbs (a := a[i]) (b := b[i]) rfl rfl) ?_
        refine Zi5 25 rfl (decide_eq_true (hz)) ?_
        refine Zik ?_
        refine V4 ?_
        refine rx1 (Zha rfl (Zg7)) ?_
        refine ⟨_, ⟨?_, rfl⟩, qI⟩
        rw [decide_eq_false]
        rintro rfl
        exact hz rfl
    · have hie : i = a.length := by omega
      subst hie
      rw [List.take_length, hl, List.take_length] at he
      refine V3 ?_
      refine rx1 (Zha rfl (Zg7)) ?_
      exact ⟨_, ⟨by rw [decide_eq_true he], rfl⟩, qI⟩
  · refine fn_x Tryz.func31 rfl rfl rfl Tryz.mixed (by kernel_rfl) ?_
    intro w0
    refine Y9 ?_
    refine Zhm 10 rfl (decide_eq_true (hl)) ?_
    refine V5 ?_
    refine rx1 (Zha rfl (Zg7)) ?_
    exact ⟨_, ⟨by rw [decide_eq_false (fun h => hl (by rw [h]))], rfl⟩, qI⟩
theorem pg_ok {p ph : Nat} {s : PS} {M M' : List Asrt} {F : Asrt} {w0 w : World} (hm : Has M (pgA p ph s) M') (H : St w0 w (F :: M)) : PagerS.Ok s := by
  have H := H.pick (.there hm)
  unfold pgA at H
  obtain ⟨t, H⟩ := H.ex_get
  exact (St.pur_get (St.all_get H)).ok
def pF (x : FaultV) : HostS.Fault := ⟨x.at_, x.kind_, x.page_, x.byte_, x.by_, x.back_⟩
def flts (x : PLifeV) : List HostS.Fault := x.faults_.map pF
/-- A life's cells. -/
def pcs (x : PLifeV) : Array Value := x.cells.toArray
section
variable {x : PLifeV}
theorem pcs_pages : (pcs x)[0]? = some (.int .i64 x.pages_) := by unfold pcs; simp [PLifeV.cells]
theorem pcs_size : (pcs x)[1]? = some (.int .i64 x.size_) := by unfold pcs; simp [PLifeV.cells]
theorem pcs_window : (pcs x)[2]? = some (.int .i64 x.window_) := by unfold pcs; simp [PLifeV.cells]
theorem pcs_key (hk : x.key_.length = 32) : (pcs x).extract 3 (3 + 32) = (x.key_.map u8b).toArray := by
  unfold pcs
  apply Array.ext'
  simp [PLifeV.cells, List.extract_eq_take_drop, List.drop_append, List.take_append, List.take_of_length_le, hk]
theorem pcs_round (hk : x.key_.length = 32) : (pcs x)[35]? = some (u64b x.round_) := by unfold pcs; simp [PLifeV.cells, List.getElem?_append, List.getElem?_cons, hk]
theorem pcs_faults (hk : x.key_.length = 32) : (pcs x)[36]? = some x.faults_V := by unfold pcs; simp [PLifeV.cells, List.getElem?_append, List.getElem?_cons, hk]
theorem pcs_script (hk : x.key_.length = 32) : (pcs x)[37]? = some x.script_V := by unfold pcs; simp [PLifeV.cells, List.getElem?_append, List.getElem?_cons, hk]
theorem pcs_len (hk : x.key_.length = 32) : (pcs x).size = 38 := by unfold pcs; simp [PLifeV.cells, hk]
end
structure OpsIn (L : List Asrt) (sv : Value) (st : List OpV) : Prop where
  rd : Rd L 3 sv st.length (st.flatMap OpV.cells)
  el : ∀ o ∈ st, Bs L o.text_V o.text_ ∧ o.text_.length ≤ 140737488351232
  len : st.length * 40 ≤ 140737488351232
theorem opv_len (o : OpV) : o.cells.length = 3 := rfl
structure PIn (L : List Asrt) (x : PLifeV) : Prop where
  key : x.key_.length = 32
  flt : FaultsIn L x.faults_V (flts x)
  ops : OpsIn L x.script_V x.script_
/-- The host, and the pager, of a life. -/
def hs0 (x : PLifeV) : HostS.HS := HostS.fresh x.pages_ x.size_.toNat (flts x)
def ps0 (x : PLifeV) : PS := PagerS.freshP x.key_ x.round_ x.window_.toNat x.pages_ (x.size_.toNat - 28)
/-- May there be a pager? -/
def Made (x : PLifeV) : Prop := HostS.mayBe x.pages_ x.size_ (flts x) ∧ newR (hs0 x) x.window_ = 0
theorem made_facts {x : PLifeV} (hk : x.key_.length = 32) (h : Made x) : PagerS.Ok (ps0 x) ∧ Over (ps0 x) (hs0 x) ∧ PagerS.pot (ps0 x) (hs0 x) ≤ 1 ∧ (2 ≤ x.window_ ∧ x.window_ ≤ 16) ∧ (29 ≤ x.size_ ∧ x.size_ ≤ 4124) ∧ 0 ≤ x.pages_ ∧ x.pages_ ≤ 65536 := by
  obtain ⟨⟨h1, h2⟩, h3⟩ := h
  have hsz : (hs0 x).size = x.size_.toNat := rfl
  unfold newR at h3
  split at h3
  · cases h3
  · split at h3
    · cases h3
    · refine ⟨PagerS.ok_fresh hk (by omega) (by omega) (by omega), ⟨rfl, ?_⟩, Nat.le_refl _, by omega, by omega, by omega, by omega⟩
      show x.size_.toNat = x.size_.toNat - 28 + 28
      omega
section
variable {L : List Asrt} {x : PLifeV}
end
end Go.Sl

/- trystlaw13: told, walked; rows compared. -/
set_option maxHeartbeats 4000000
set_option maxRecDepth 10000
set_option linter.unusedVariables false
set_option linter.unusedSimpArgs false
namespace Go.Sl
open Go Go.Proofs
attribute [local irreducible] pt pur ex all den denOps denS xOps xC cX CX xthen xblk xcut xloop xng retX resX Calls PV Rd Con
attribute [local irreducible] hostA refA rpcl pcl pgSealB pgOpenR HostS.writeR HostS.readR PagerS.roomP PagerS.useP usedH pgA
open PagerS (PS Over)
theorem eqRows_x {L : List Asrt} {va vb : Value} {ps qs : List Part} (ha : Rd L 1 va ps.length (ps.map vP)) (hb : Rd L 1 vb qs.length (qs.map vP)) (hp : ∀ p ∈ ps, Bs L (vP p) p.2.2) (hq : ∀ p ∈ qs, Bs L (vP p) p.2.2) (h : ps.map (·.2.2) = qs.map (·.2.2)) (hl : ps.length ≤ 1073741824) :
    Con Tryz.prog 47 [va, vb] L (fun r M => r = .bool true ∧ L = M) := by
  refine Con.get (fun w0 w F H => ha.len H) ?_
  rintro ⟨aa, ac, rfl⟩
  refine Con.get (fun w0 w F H => hb.len H) ?_
  rintro ⟨ba, bc, rfl⟩
  have hlen : ps.length = qs.length := by simpa using congrArg List.length h
  refine fn_x Tryz.func47 rfl rfl rfl Tryz.mixed (by kernel_rfl) ?_
  intro w0
  refine Y9 ?_
  refine Zhn 10 rfl (decide_eq_false ((fun hh => hh hlen))) ?_
  refine V5 ?_
  refine Zgo [(4, 5), (11, 26)] (by kernel_rfl) (fun i : Nat => i ≤ ps.length) (fun _ => L) (fun i => [(5, nvv i)]) (fun i => ps.length - i) 0 (Nat.zero_le _) qI ⟨rfl, trivial⟩ ?_
  intro i u hi
  refine V6 ?_
  refine Zgg rfl (fun hB => ?_) (fun hB => ?_)
  · have hib : i < qs.length := by omega
    refine Zgt (fun F w H => ha.someAt (by omega) H) ?_
    rintro ⟨a1, a2, rfl⟩
    refine Zgt (fun F w H => hb.someAt (by omega) H) ?_
    rintro ⟨b1, b2, rfl⟩
    have hpi := hp _ (List.getElem_mem hB)
    have hqi := hq _ (List.getElem_mem hib)
    have heq : ps[i].2.2 = qs[i].2.2 := by
      have h2 : (ps.map (·.2.2))[i]? = (qs.map (·.2.2))[i]? := by rw [h]
      rw [List.getElem?_map, List.getElem?_map, List.getElem?_eq_getElem hB, List.getElem?_eq_getElem hib] at h2
      exact Option.some.inj h2
    refine Ct.o ?_
    refine Zij (L) [7] (.q 0 (.q 1 (.q 2 (.q 4 (.q 5 (.q 6 (.r 3 (.r 7 (.e 8 false (.q 9 .nil)))))))))) (by kernel_rfl) (by kernel_rfl) (Imp.arr qV) ?_
    refine W6 ?_
    refine Zfh rfl rfl ((ha.at hB (getM (f := vP) hB))) ?_
    refine Zfh rfl rfl ((hb.at hib (getM (f := vP) hib))) ?_
    refine Ziq rfl ?_
    refine Zh8 rfl (by kernel_rfl) (eqBytes_x hpi hqi) rfl qT ?_
    rintro _ _ ⟨rfl, rfl⟩
    refine Y1 ?_
    refine Zg3 ⟨(fun hh => Bool.noConfusion hh), ?_⟩
    refine Zi5 25 rfl (decide_eq_true (heq)) ?_
    refine Zim rfl (Zb0 rfl) ?_
    refine Zi6 26 rfl (rfl) ?_
    refine Zik ?_
    refine V6 ?_
    exact Zgl (i + 1) qO (by omega) qI ⟨rfl, trivial⟩
  · refine V3 ?_
    refine rx1 (Zha rfl (Zg7)) ?_
    exact ⟨_, ⟨rfl, rfl⟩, qI⟩
theorem ow32 {n : Nat} (h : n ≤ 4294967295) : (BitVec.ofNat 32 n).toNat = n := by rw [BitVec.toNat_ofNat]; omega
section
variable {p ph rp q : Nat} {s : PS}
theorem told13_x : Con Tryz.prog 46 [hp p, hp rp] [pgA p ph s, rpA rp q s] (fun r M => r = .bool true ∧ M = [pgA p ph s, rpA rp q s]) := by
  refine Con.get (fun w0 w F H => pg_ok (p := p) (ph := ph) qH H) ?_
  intro hok
  have hw := ow32 hok.writes
  have hnl : (PagerS.numbers s).length ≤ 16 := by
    have := hok.many; have := hok.w1
    unfold PagerS.numbers; rw [List.length_map]; omega
  refine fn_x Tryz.func46 rfl rfl rfl Tryz.mixed (by kernel_rfl) ?_
  intro w0
  refine Y5 ?_
  refine Zh8 rfl (by kernel_rfl) (held_x (p := p) (ph := ph)) rfl qT ?_
  rintro _ _ ⟨ha, hc, rfl, rfl⟩
  refine Y5 ?_
  refine Zh8 rfl (by kernel_rfl) (held_x (p := p) (ph := ph)) rfl qT ?_
  rintro _ _ ⟨ha2, hc2, rfl, rfl⟩
  refine Y5 ?_
  refine Zh8 rfl (by kernel_rfl) (rnumbers_x (p := rp) (q := q) (s := s)) rfl qT ?_
  rintro _ _ ⟨na, nc, rfl, rfl⟩
  refine V3 ?_
  refine Zgp (Imp.arr (N := rpA rp q s :: [pgA p ph s, ownI ha hc (PagerS.numbers s), ownI ha2 hc2 (PagerS.numbers s), ownI na nc (PagerS.numbers s)]) qV) ?_
  refine x_rpA fun c hl wl hk hq => ?_
  have hkey := hk.ok.key
  simp only [List.cons_append, List.nil_append]
  refine Ct.o ?_
  refine Zij ([cl rp (rpcl s c) 126]) [2, 7, 12, 21, 22, 31, 40, 49] (.q 0 (.q 1 (.e 2 true (.q 3 (.q 4 (.q 5 (.q 6 (.e 7 true (.q 8 (.q 9 (.q 10 (.q 11 (.q 13 (.q 14 (.q 15 (.r 16 (.e 12 true (.q 17 (.q 18 (.q 19 (.q 20 (.q 23 (.q 24 (.q 25 (.r 26 (.e 21 true (.r 22 (.q 27 (.q 28 (.q 29 (.q 30 (.q 32 (.q 33 (.q 34 (.r 35 (.e 31 true (.q 36 (.q 37 (.q 38 (.q 39 (.q 41 (.q 42 (.q 43 (.r 44 (.e 40 true (.q 45 (.q 46 (.q 47 (.q 48 (.q 50 (.q 51 (.q 52 (.r 53 (.e 49 true (.q 54 (.q 55 .nil)))))))))))))))))))))))))))))))))))))))))))))))))))))))) (by kernel_rfl) (by kernel_rfl) (Imp.arr qV) ?_
  refine W2 ?_
  refine Ziq rfl ?_
  refine Zh8 rfl (by kernel_rfl) (eqInts_x (L := [ownI ha hc (PagerS.numbers s), ownI na nc (PagerS.numbers s)]) (a := PagerS.numbers s) (b := PagerS.numbers s) (Rd.own .here) (Rd.own (.there .here)) (by omega) (by omega)) rfl qT ?_
  rintro _ _ ⟨rfl, rfl⟩
  refine Y1 ?_
  refine Zg3 ⟨fun _ => Imp.arr qV, ?_⟩
  refine Zi5 16 rfl (decide_eq_true (rfl)) ?_
  refine Zim rfl (Zb0 rfl) ?_
  refine Zi6 17 rfl (rfl) ?_
  refine W3 ?_
  refine Ziq rfl ?_
  first|refine Y0 ?_|(refine Zhh rfl ?_; (refine Zh8 rfl (by kernel_rfl) (eqInts_x (L := [ownI ha2 hc2 (PagerS.numbers s), ownI na nc (PagerS.numbers s)]) (a := PagerS.numbers s) (b := PagerS.numbers s) (Rd.own .here) (Rd.own (.there .here)) (by omega) (by omega)) rfl qT ?_); (rintro _ _ ⟨rfl, rfl⟩); (refine Zg2 qA ?_))
  refine Zg3 ⟨fun _ => Imp.arr qV, ?_⟩
  refine Zi5 21 rfl (decide_eq_true (rfl)) ?_
  first|refine Zio rfl rfl ?_|refine Zip rfl rfl ?_|refine Zin rfl rfl (Zb0 rfl) ?_
  refine Zi6 22 rfl (rfl) ?_
  refine W6 ?_
  first|refine Zi1 rfl rfl ?_|refine Zi2 rfl rfl ?_|refine Ziw rfl rfl rfl qH (rp_f hkey (k := 6) rfl) ?_
  refine Ziq rfl ?_
  first|refine Y0 ?_|(refine Zhh rfl ?_; (refine Zh8 rfl (by kernel_rfl) (most_p (p := p) (ph := ph)) rfl qT ?_); (rintro _ _ ⟨rfl, rfl⟩); (refine Zg2 qA ?_))
  refine Zg3 ⟨fun _ => Imp.arr qV, ?_⟩
  first|refine Zio rfl rfl ?_|refine Zip rfl rfl ?_|refine Zin rfl rfl (Zmk (a := s.most) (b := s.most) rfl rfl) ?_
  refine Zi6 31 rfl (decide_eq_false ((fun hh => hh rfl))) ?_
  refine W6 ?_
  first|refine Zi1 rfl rfl ?_|refine Zi2 rfl rfl ?_|refine Ziw rfl rfl rfl qH (rp_f hkey (k := 7) rfl) ?_
  refine Ziq rfl ?_
  first|refine Y0 ?_|(refine Zhh rfl ?_; (refine Zh8 rfl (by kernel_rfl) (writes_p (p := p) (ph := ph)) rfl qT ?_); (rintro _ _ ⟨rfl, rfl⟩); (refine Zg2 qA ?_))
  refine Zg3 ⟨fun _ => Imp.arr qV, ?_⟩
  first|refine Zi1 rfl rfl ?_|refine Zi2 rfl rfl ?_|refine Zi0 rfl rfl (Zk7 rfl) ?_
  first|refine Zio rfl rfl ?_|refine Zip rfl rfl ?_|refine Zin rfl rfl (Zmk (a := (BitVec.ofNat 32 s.writes).toNat) (b := s.writes) rfl rfl) ?_
  refine Zi6 41 rfl (decide_eq_false ((fun hh => hh hw))) ?_
  refine W6 ?_
  first|refine Zi1 rfl rfl ?_|refine Zi2 rfl rfl ?_|refine Ziw rfl rfl rfl qH (rp_f hkey (k := 8) rfl) ?_
  refine Ziq rfl ?_
  first|refine Y0 ?_|(refine Zhh rfl ?_; (refine Zh8 rfl (by kernel_rfl) (err_p (p := p) (ph := ph)) rfl qT ?_); (rintro _ _ ⟨rfl, rfl⟩); (refine Zg2 qA ?_))
  refine Zg3 ⟨fun _ => Imp.arr qV, ?_⟩
  first|refine Zio rfl rfl ?_|refine Zip rfl rfl ?_|refine Zin rfl rfl (Zmk (a := s.err) (b := s.err) rfl rfl) ?_
  refine Zi6 50 rfl (decide_eq_false ((fun hh => hh rfl))) ?_
  refine W6 ?_
  first|refine Zi1 rfl rfl ?_|refine Zi2 rfl rfl ?_|refine Ziw rfl rfl rfl qH (rp_f hkey (k := 2) rfl) ?_
  refine Ziq rfl ?_
  first|refine Y0 ?_|(refine Zhh rfl ?_; (refine Zh8 rfl (by kernel_rfl) (pages_p (p := p) (ph := ph)) rfl qT ?_); (rintro _ _ ⟨rfl, rfl⟩); (refine Zg2 qA ?_))
  refine Zg3 ⟨fun _ => Imp.arr qV, ?_⟩
  first|refine Zio rfl rfl ?_|refine Zip rfl rfl ?_|refine Zin rfl rfl (Zbs (a := s.pages) (b := s.pages) rfl rfl) ?_
  refine Zi6 59 rfl (decide_eq_false ((fun hh => hh rfl))) ?_
  refine W6 ?_
  first|refine Zi1 rfl rfl ?_|refine Zi2 rfl rfl ?_|refine Ziw rfl rfl rfl qH (rp_f hkey (k := 3) rfl) ?_
  refine Ziq rfl ?_
  first|refine Y0 ?_|(refine Zhh rfl ?_; (refine Zh8 rfl (by kernel_rfl) (text_p (p := p) (ph := ph)) rfl qT ?_); (rintro _ _ ⟨rfl, rfl⟩); (refine Zg2 qA ?_))
  refine Zg3 ⟨fun _ => Imp.arr qV, ?_⟩
  first|refine Zio rfl rfl ?_|refine Zip rfl rfl ?_|refine Zin rfl rfl (Zmk (a := s.text) (b := s.text) rfl rfl) ?_
  refine Zi6 68 rfl (decide_eq_false ((fun hh => hh rfl))) ?_
  refine W2 ?_
  refine V1 ?_
  have hback : Imp (rpL rp s c hl wl ++ [pgA p ph s]) (rpA rp q s :: [pgA p ph s]) := rpA_mk hk hq
  simp only [List.cons_append, List.nil_append] at hback
  refine Zgp (Imp.arr (N := ownPI (ha, hc, PagerS.numbers s) :: ownPI (ha2, hc2, PagerS.numbers s) :: (rpL rp s c hl wl ++ [pgA p ph s])) qV) ?_
  refine Zgp (Imp.cons (Imp.cons (star_nil (A := ownPI)))) ?_
  refine Zgp (Imp.cons star_cons) ?_
  refine Zgp star_cons ?_
  simp only [List.cons_append, List.nil_append]
  refine Y3 ?_
  refine Zh7 (cs := #[.slice ha (PagerS.numbers s).length hc, .slice ha2 (PagerS.numbers s).length hc2]) (by omega) (by omega) rfl ?_; intro b72
  refine Zh8 rfl (by kernel_rfl) (apartI_x (N := 2) (L := [cl b72 #[.slice ha (PagerS.numbers s).length hc, .slice ha2 (PagerS.numbers s).length hc2] 43]) [(ha, hc, PagerS.numbers s), (ha2, hc2, PagerS.numbers s)] rfl (by omega) (by intro p hp; simp only [List.mem_cons, List.not_mem_nil, or_false] at hp; rcases hp with rfl|rfl <;> (dsimp only; omega)) (Rd.cl (o := 0) .here rfl (by simp) (by simp [vPI]))) rfl qT ?_
  rintro _ _ ⟨rfl, rfl⟩
  refine V3 ?_
  refine rx1 (Zha rfl (Zg7)) ?_
  exact ⟨_, ⟨rfl, rfl⟩, ((Imp.arr qV).trans hback).trans qI⟩
end
end Go.Sl

/- trystlaw13: play, walked; two logs compared. -/
set_option maxHeartbeats 4000000
set_option maxRecDepth 10000
set_option linter.unusedVariables false
set_option linter.unusedSimpArgs false
namespace Go.Sl
open Go Go.Proofs
attribute [local irreducible] pt pur ex all den denOps denS xOps xC cX CX xthen xblk xcut xloop xng retX resX Calls PV Rd Con
attribute [local irreducible] hostA pgA PagerS.loadP PagerS.saveP PagerS.flushP pcs
attribute [local irreducible] ocells
open PagerS (PS Over)
theorem sameLog13_x {L : List Asrt} {va vb : Value} {a b : List OTouch} (ha : Rd L 15 va a.length (a.flatMap ocells)) (hb : Rd L 15 vb b.length (b.flatMap ocells)) (hal : a.length ≤ 9223372036854775807) (hbl : b.length ≤ 9223372036854775807) :
    Con Tryz.prog 30 [va, vb] L (fun r M => r = .bool (decide (a.map (·.1) = b.map (·.1))) ∧ M = L) := by
  refine Con.get (fun w0 w F H => ha.len H) ?_
  rintro ⟨aa, ac, rfl⟩
  refine Con.get (fun w0 w F H => hb.len H) ?_
  rintro ⟨ba, bc, rfl⟩
  by_cases hl : a.length = b.length
  · refine fn_x Tryz.func30 rfl rfl rfl Tryz.mixed (by kernel_rfl) ?_
    intro w0
    refine Y9 ?_
    refine Zhn 10 rfl (decide_eq_false ((fun h => h hl))) ?_
    refine V5 ?_
    refine Zgo [(4, 5), (11, 25)] (by kernel_rfl) (fun i : Nat => i ≤ a.length ∧ (a.take i).map (·.1) = (b.take i).map (·.1)) (fun _ => L) (fun i => [(5, nvv i)]) (fun i => a.length - i) 0 ⟨Nat.zero_le _, rfl⟩ qI ⟨rfl, trivial⟩ ?_
    rintro i u ⟨hi, he⟩
    refine V6 ?_
    refine Zgg rfl (fun hB => ?_) (fun hB => ?_)
    · have hib : i < b.length := by omega
      refine Zgt (fun F w H => ha.someAt (by omega) H) ?_
      rintro ⟨a1, a2, rfl⟩
      refine Zgt (fun F w H => hb.someAt (by omega) H) ?_
      rintro ⟨b1, b2, rfl⟩
      have e1 : (a.take (i + 1)).map (·.1) = (a.take i).map (·.1) ++ [a[i].1] := by rw [List.take_succ_eq_append_getElem hB, List.map_append]; rfl
      have e2 : (b.take (i + 1)).map (·.1) = (b.take i).map (·.1) ++ [b[i].1] := by rw [List.take_succ_eq_append_getElem hib, List.map_append]; rfl
      by_cases heq : a[i].1 = b[i].1
      · refine Ct.o ?_
        refine Zij (_) [7] (.q 0 (.q 1 (.q 2 (.q 4 (.q 5 (.q 6 (.r 3 (.r 7 (.q 8 .nil))))))))) (by kernel_rfl) (by kernel_rfl) (Imp.refl _) ?_
        refine W6 ?_
        refine Zfj rfl rfl (ha.agN ocells_len (by omega) hB) ?_
        refine Zfj rfl rfl (hb.agN ocells_len (by omega) hib) ?_
        refine Zim rfl (pv_neq_touch a[i] b[i] rfl rfl) ?_
        refine Zi6 25 rfl (decide_eq_false ((fun h => h heq))) ?_
        refine Zik ?_
        refine V6 ?_
        exact Zgl (i + 1) qO ⟨by omega, by rw [e1, e2, he, heq]⟩ qI ⟨rfl, trivial⟩
      · refine Ct.o ?_
        refine Zij (_) [7] (.q 0 (.q 1 (.q 2 (.q 4 (.q 5 (.q 6 (.r 3 (.r 7 (.q 8 .nil))))))))) (by kernel_rfl) (by kernel_rfl) (Imp.refl _) ?_
        refine W6 ?_
        refine Zfj rfl rfl (ha.agN ocells_len (by omega) hB) ?_
        refine Zfj rfl rfl (hb.agN ocells_len (by omega) hib) ?_
        refine Zim rfl (pv_neq_touch a[i] b[i] rfl rfl) ?_
        refine Zi5 25 rfl (decide_eq_true (heq)) ?_
        refine Zik ?_
        refine V4 ?_
        refine rx1 (Zha rfl (Zg7)) ?_
        refine ⟨_, ⟨?_, rfl⟩, qI⟩
        rw [decide_eq_false]
        intro h
        have h2 : (a.map (·.1))[i]? = (b.map (·.1))[i]? := by rw [h]
        rw [List.getElem?_map, List.getElem?_map, List.getElem?_eq_getElem hB, List.getElem?_eq_getElem hib] at h2
        exact heq (Option.some.inj h2)
    · have hie : i = a.length := by omega
      subst hie
      rw [List.take_length, List.take_of_length_le (by omega)] at he
      refine V3 ?_
      refine rx1 (Zha rfl (Zg7)) ?_
      exact ⟨_, ⟨by rw [decide_eq_true he], rfl⟩, qI⟩
  · refine fn_x Tryz.func30 rfl rfl rfl Tryz.mixed (by kernel_rfl) ?_
    intro w0
    refine Y9 ?_
    refine Zhm 10 rfl (decide_eq_true (hl)) ?_
    refine V5 ?_
    refine rx1 (Zha rfl (Zg7)) ?_
    refine ⟨_, ⟨?_, rfl⟩, qI⟩
    rw [decide_eq_false]
    intro h
    have := congrArg List.length h
    rw [List.length_map, List.length_map] at this
    exact hl this
section
variable {L : List Asrt} {x : PLifeV} {p ph : Nat} {s : PS} {h : HostS.HS}
end
end Go.Sl

/- trystlaw13: works, walked. -/
set_option maxHeartbeats 4000000
set_option maxRecDepth 10000
set_option linter.unusedVariables false
set_option linter.unusedSimpArgs false
namespace Go.Sl
open Go Go.Proofs
attribute [local irreducible] pt pur ex all den denOps denS xOps xC cX CX xthen xblk xcut xloop xng retX resX Calls PV Rd Con
attribute [local irreducible] hostA pgSealB pgOpenR
open PagerS (PS Over)
theorem writeP_is {s : PS} {h : HostS.HS} {b : Int → List Byte} (hq : PagerS.Quiet s h b) (hw : s.writes < 4294967295) {n : Int} (hn : n ∈ PagerS.numbers s) : PagerS.writeP s h n = (0, PagerS.wroteP s n, HostS.wrote n (PagerS.boxOf s n) (HostS.logged h 1 n (PagerS.boxOf s n))) := by
  obtain ⟨h0, _⟩ := hq.write hw hn
  obtain ⟨_, hz, e⟩ := PagerS.writeP_zero h0
  rw [e, PagerS.writeR_zero hz]
theorem fetchP_is {s : PS} {h : HostS.HS} {b : Int → List Byte} (hq : PagerS.Quiet s h b) {n : Int} (hn : n ∉ PagerS.numbers s) (hp : 0 ≤ n ∧ n < s.pages) {pl : Plc} (hl : s.last n = some pl) : PagerS.fetchP s h n = ((b n, 0), PagerS.useP s ⟨n, b n, 1⟩, HostS.logged h 0 n []) := by
  have hrd := PagerS.readR_calm hq.calm (n := n) ⟨hp.1, by rw [hq.sound.over.pages]; exact hp.2⟩
  obtain ⟨_, l2⟩ := (hq.sound.right hq.err n).2 (PagerS.changed_no hn)
  have hbl := hq.sound.len n
  have ht1 := hq.sound.ok.t1
  unfold PagerS.fetchP
  rw [hl]
  dsimp only
  rw [hrd]
  dsimp only
  rw [if_pos rfl, l2 pl hl, pg_back _ _ _ (by omega)]
  rfl
namespace PlW
def k5 : List Byte := 5#8 :: List.replicate 31 0#8
def s0 : PS := PagerS.freshP k5 9#64 2 4 2
def h0 : HostS.HS := HostS.fresh 4 30 []
def s1 : PS := PagerS.useP s0 ⟨1, [5#8, 6#8], 2⟩
def s2 : PS := PagerS.useP s1 ⟨2, [7#8, 8#8], 2⟩
def cut (s : PS) : PS := { s with held := s.held.tail }
def s3 : PS := PagerS.useP (cut (PagerS.wroteP s2 1)) ⟨3, [9#8, 9#8], 2⟩
def h3 : HostS.HS := HostS.wrote 1 (PagerS.boxOf s2 1) (HostS.logged h0 1 1 (PagerS.boxOf s2 1))
def s4 : PS := PagerS.useP (cut (PagerS.wroteP s3 2)) ⟨1, [5#8, 6#8], 1⟩
def h4 : HostS.HS := HostS.logged (HostS.wrote 2 (PagerS.boxOf s3 2) (HostS.logged h3 1 2 (PagerS.boxOf s3 2))) 0 1 []
def b0 : Int → List Byte := fun _ => List.replicate 2 0#8
def b1 := HostS.setF b0 1 [5#8, 6#8]
def b2 := HostS.setF b1 2 [7#8, 8#8]
def b3 := HostS.setF b2 3 [9#8, 9#8]
theorem q0 : PagerS.Quiet s0 h0 b0 := PagerS.quiet_fresh (PagerS.ok_fresh rfl (by omega) (by omega) (by omega)) rfl rfl (PagerS.calm_fresh 4 30)
theorem e1 : PagerS.saveP s0 h0 1 [5#8, 6#8] = (0, s1, h0) := rfl
theorem q1 : PagerS.Quiet s1 h0 b1 := (q0.save (n := 1) (t := [5#8, 6#8]) (by decide) (by decide) (by decide) rfl).2
theorem e2 : PagerS.saveP s1 h0 2 [7#8, 8#8] = (0, s2, h0) := rfl
theorem q2 : PagerS.Quiet s2 h0 b2 := (q1.save (n := 2) (t := [7#8, 8#8]) (by decide) (by decide) (by decide) rfl).2
theorem e3 : PagerS.saveP s2 h0 3 [9#8, 9#8] = (0, s3, h3) := by
  have hw := writeP_is q2 (by decide) (n := 1) (by decide)
  have hr : PagerS.roomP s2 h0 = (0, cut (PagerS.wroteP s2 1), h3) := by
    have : PagerS.roomP s2 h0 = (if (PagerS.writeP s2 h0 1).1 = 0 then (0, cut (PagerS.writeP s2 h0 1).2.1, (PagerS.writeP s2 h0 1).2.2) else PagerS.writeP s2 h0 1) := rfl
    rw [this, hw]; rfl
  have : PagerS.saveP s2 h0 3 [9#8, 9#8] = (if (PagerS.roomP s2 h0).1 = 0 then (0, PagerS.useP (PagerS.roomP s2 h0).2.1 ⟨3, [9#8, 9#8], 2⟩, (PagerS.roomP s2 h0).2.2) else PagerS.roomP s2 h0) := rfl
  rw [this, hr]; rfl
theorem q3 : PagerS.Quiet s3 h3 b3 := by
  have := (q2.save (n := 3) (t := [9#8, 9#8]) (by decide) (by decide) (by decide) rfl).2
  rw [e3] at this; exact this
theorem e4 : PagerS.loadP s3 h3 1 = (([5#8, 6#8], 0), s4, h4) := by
  have hw := writeP_is q3 (by decide) (n := 2) (by decide)
  have hr : PagerS.roomP s3 h3 = (0, cut (PagerS.wroteP s3 2), HostS.wrote 2 (PagerS.boxOf s3 2) (HostS.logged h3 1 2 (PagerS.boxOf s3 2))) := by
    have : PagerS.roomP s3 h3 = (if (PagerS.writeP s3 h3 2).1 = 0 then (0, cut (PagerS.writeP s3 h3 2).2.1, (PagerS.writeP s3 h3 2).2.2) else PagerS.writeP s3 h3 2) := rfl
    rw [this, hw]; rfl
  have q4 := (q3.room (by decide)).2
  rw [hr] at q4
  have hf := fetchP_is q4 (n := 1) (by decide) (by decide) (pl := PagerS.nextPl s2 1) rfl
  have : PagerS.loadP s3 h3 1 = (if (PagerS.roomP s3 h3).1 = 0 then PagerS.fetchP (PagerS.roomP s3 h3).2.1 (PagerS.roomP s3 h3).2.2 1 else (([], (PagerS.roomP s3 h3).1), (PagerS.roomP s3 h3).2)) := rfl
  rw [this, hr, if_pos rfl, hf]; rfl
theorem may : HostS.mayBe 4 30 [] := ⟨⟨by decide, by decide, by decide, by decide⟩, rfl⟩
end PlW
attribute [local irreducible] PagerS.saveP PagerS.loadP PlW.s0 PlW.s1 PlW.s2 PlW.s3 PlW.s4 PlW.h0 PlW.h3 PlW.h4
open PlW in
theorem plWorks_x : Con Tryz.prog 25 [] [] (fun r M => r = .bool true ∧ M = []) := by
  have hs1 := fun p q b => save_x (p := q) (ph := p) (L := [cl b #[u8b 5#8, u8b 6#8] 5]) q0.sound.over (by with_unfolding_all decide) 1 (bs_full (l := [5#8, 6#8]) (n := 2) qH rfl (by omega))
  have hs2 := fun p q b => save_x (p := q) (ph := p) (L := [cl b #[u8b 7#8, u8b 8#8] 5]) q1.sound.over (by with_unfolding_all decide) 2 (bs_full (l := [7#8, 8#8]) (n := 2) qH rfl (by omega))
  have hs3 := fun p q b => save_x (p := q) (ph := p) (L := [cl b #[u8b 9#8, u8b 9#8] 5]) q2.sound.over (by with_unfolding_all decide) 3 (bs_full (l := [9#8, 9#8]) (n := 2) qH rfl (by omega))
  have hl := fun p q => load_x (p := q) (ph := p) q3.sound.over (by with_unfolding_all decide) 1
  rw [e1] at hs1
  rw [e2] at hs2
  rw [e3] at hs3
  rw [e4] at hl
  dsimp only at hs1 hs2 hs3 hl
  have hz : newR h0 2 = 0 := by with_unfolding_all rfl
  have hf : PagerS.freshP k5 9#64 (2 : Int).toNat h0.pages (h0.size - 28) = s0 := by with_unfolding_all rfl
  have hn := fun p => pnew_ok (ph := p) (h := h0) (key := k5) rfl 9#64 hz
  rw [hf] at hn
  have hh : HostS.fresh 4 (30 : Int).toNat [] = h0 := by with_unfolding_all rfl
  have hnw := new_ok (L := []) 4 30 (fv := .slice none 0 0) (fl := []) (by simp) (by simp) Rd.nil may
  rw [hh] at hnw
  have hw4 : s4.writes = 2 := by with_unfolding_all rfl
  have hl4 : h4.log.length = 3 := by with_unfolding_all rfl
  have hwx := fun p q => writes_p (p := q) (ph := p) (s := s4)
  rw [hw4] at hwx
  have hlx := fun p => log_x (p := p) (s := h4) (by with_unfolding_all decide)
  rw [hl4] at hlx
  refine fn_x Tryz.func25 rfl rfl rfl Tryz.mixed (by kernel_rfl) ?_
  intro w0
  refine Y4 ?_
  refine Zh8 rfl (by kernel_rfl) (hnw) rfl qT ?_
  rintro _ _ ⟨p, rfl, rfl⟩
  refine Y10 ?_
  refine Zhn 10 rfl (decide_eq_false (fun hh => hh rfl)) ?_
  refine Y8 ?_
  refine Zhg (Zol rfl) ?_
  refine Zhg (Zdn (cs := (k5.map u8b).toArray) (by kernel_rfl)) ?_
  refine Zh8 rfl (by kernel_rfl) (hn p) rfl qT ?_
  rintro _ _ ⟨q, rfl, rfl⟩
  refine Y10 ?_
  refine Zhn 23 rfl (decide_eq_false ((fun hh => hh rfl))) ?_
  refine Y6 ?_
  first|refine Y0 ?_|(refine Zhh rfl ?_; (refine Zh7 (cs := #[u8b 5#8, u8b 6#8]) (by omega) (by omega) (by kernel_rfl) ?_; intro b30))
  first|refine Y0 ?_|(refine Zhh rfl ?_; (refine Zh8 rfl (by kernel_rfl) (hs1 p q b30) rfl qT ?_); (rintro _ _ ⟨rfl, rfl⟩); (refine Zg2 qA ?_))
  refine Y1 ?_
  refine Zhn 32 rfl (decide_eq_false ((fun hh => hh rfl))) ?_
  refine Y3 ?_
  first|refine Y0 ?_|(refine Zhh rfl ?_; (refine Zh7 (cs := #[u8b 7#8, u8b 8#8]) (by omega) (by omega) (by kernel_rfl) ?_; intro b36))
  first|refine Y0 ?_|(refine Zhh rfl ?_; (refine Zh8 rfl (by kernel_rfl) (hs2 p q b36) rfl qT ?_); (rintro _ _ ⟨rfl, rfl⟩); (refine Zg2 qA ?_))
  refine Y1 ?_
  refine Zhn 38 rfl (decide_eq_false ((fun hh => hh rfl))) ?_
  refine Y3 ?_
  first|refine Y0 ?_|(refine Zhh rfl ?_; (refine Zh7 (cs := #[u8b 9#8, u8b 9#8]) (by omega) (by omega) (by kernel_rfl) ?_; intro b42))
  first|refine Y0 ?_|(refine Zhh rfl ?_; (refine Zh8 rfl (by kernel_rfl) (hs3 p q b42) rfl qT ?_); (rintro _ _ ⟨rfl, rfl⟩); (refine Zg2 qA ?_))
  refine Y1 ?_
  refine Zhn 44 rfl (decide_eq_false ((fun hh => hh rfl))) ?_
  refine Y5 ?_
  refine Zh8 rfl (by kernel_rfl) (hl p q) rfl qT ?_
  rintro _ _ ⟨a, c, rfl, rfl⟩
  refine Y10 ?_
  refine Zhm 52 rfl (decide_eq_true (rfl)) ?_
  refine Y2 ?_
  first|refine Y0 ?_|(refine Zhh rfl ?_; (refine Zh7 (cs := #[u8b 5#8, u8b 6#8]) (by omega) (by omega) (by kernel_rfl) ?_; intro b55))
  first|refine Y0 ?_|(refine Zhh rfl ?_; (refine Zh8 rfl (by kernel_rfl) (eqBytes_x (L := [ownB a c [5#8, 6#8], cl b55 #[u8b 5#8, u8b 6#8] 5]) (a := [5#8, 6#8]) (b := [5#8, 6#8]) (Bs.own qH) (bs_full (l := [5#8, 6#8]) (n := 2) qH rfl (by omega))) rfl qT ?_); (rintro _ _ ⟨rfl, rfl⟩); (refine Zg2 qA ?_))
  refine Zhm 56 rfl (decide_eq_true (rfl)) ?_
  refine Y3 ?_
  first|refine Y0 ?_|(refine Zhh rfl ?_; (refine Zh8 rfl (by kernel_rfl) (hwx p q) rfl qT ?_); (rintro _ _ ⟨rfl, rfl⟩); (refine Zg2 qA ?_))
  first|refine Y0 ?_|(refine Zhh rfl ?_; (refine Zhg (Zky (x := 2#32) (y := 2#32) rfl rfl) ?_))
  refine Zhm 61 rfl (decide_eq_true (rfl)) ?_
  refine Y3 ?_
  first|refine Y0 ?_|(refine Zhh rfl ?_; (refine Zh8 rfl (by kernel_rfl) (hlx p) rfl qT ?_); (rintro _ _ ⟨la, lc, rfl, rfl⟩); (refine Zg2 qA ?_))
  refine Y2 ?_
  refine Zhm 67 rfl (decide_eq_true (rfl)) ?_
  refine V3 ?_
  refine rx1 (Zha rfl (Zg7)) ?_
  exact ⟨_, ⟨rfl, rfl⟩, qI⟩
end Go.Sl

/- trystlaw13: PagerSees, walked. -/
set_option maxHeartbeats 4000000
set_option maxRecDepth 10000
set_option linter.unusedVariables false
set_option linter.unusedSimpArgs false
namespace Go.Sl
open Go Go.Proofs
attribute [local irreducible] pt pur ex all den denOps denS xOps xC cX CX xthen xblk xcut xloop xng retX resX Calls PV Rd Con
attribute [local irreducible] hostA pgA PagerS.loadP PagerS.saveP PagerS.flushP pcs
attribute [local irreducible] ocells
open PagerS (PS Over)
theorem heads_tok {r : BitVec 64} {pages : Int} {size : Nat} {l : List HostS.Touch} (h : PagerS.Heads r pages size l) (hp : pages ≤ 65536) (hz : size ≤ 4124) : ∀ t ∈ l, TOk t := by
  intro t ht
  obtain ⟨i, hi, rfl⟩ := List.mem_iff_getElem.1 ht
  obtain ⟨h1, h2, h3, h4⟩ := h i hi
  rcases h4 with ⟨e, hh, _⟩|⟨e, hh⟩
  · exact ⟨by omega, by omega, by omega, by rw [hh]; simp⟩
  · exact ⟨by omega, by omega, by omega, by rw [hh]; simp [leB_len]⟩
theorem hi_tok {s : PS} {h : HostS.HS} (hi : PagerS.HI s h) (hk : PagerS.Ok s) : ∀ t ∈ h.log, TOk t := by
  have := hk.p1; have := hk.t1; have := hi.over.size
  exact heads_tok hi.heads hk.p1 (by omega)
section
variable {L : List Asrt} {x : PLifeV}
end
end Go.Sl

/- trystlaw13: PagerPlays, walked. -/
set_option maxHeartbeats 4000000
set_option maxRecDepth 10000
set_option linter.unusedVariables false
set_option linter.unusedSimpArgs false
namespace Go.Sl
open Go Go.Proofs
attribute [local irreducible] pt pur ex all den denOps denS xOps xC cX CX xthen xblk xcut xloop xng retX resX Calls PV Rd Con
attribute [local irreducible] hostA pgA refA rpA PagerS.loadP PagerS.saveP PagerS.flushP pcs
attribute [local irreducible] ocells
open PagerS (PS Over)
section
variable {q : Nat} {h : HostS.HS} {fl : List HostS.Fault} {L : List Asrt}
theorem x_refA {w0 : World} {c : Code} {ρ : Env} {Q : XQ} (k : ∀ (wl : List WrE) (fa : Option Addr) (fc : Nat) (wa : Option Addr) (wc : Nat) (la : Option Addr) (lc : Nat), RefOk h fl wl → xC Tryz.prog w0 c ρ (refL q h fl wl fa fc wa wc la lc ++ L) Q) : xC Tryz.prog w0 c ρ (refA q h fl :: L) Q := by
  with_unfolding_all unfold refA
  exact Zgr fun t => Zgs (L := pur (RefOk h fl t.2.2.2) :: refL q h fl t.2.2.2 t.1.1 t.1.2 t.2.1.1 t.2.1.2 t.2.2.1.1 t.2.2.1.2) (Zgq fun hk => k t.2.2.2 t.1.1 t.1.2 t.2.1.1 t.2.1.2 t.2.2.1.1 t.2.2.1.2 hk)
theorem rnewh_ok (pages size : Int) {fv : Value} (hf : FaultsIn L fv fl) (hm : HostS.mayBe pages size fl) : Con Tryz.prog 37 [.int .i64 pages, .int .i64 size, fv] L (fun r M => ∃ q, r = .tuple #[hp q, nvv 0] ∧ M = refA q (HostS.fresh pages size.toNat fl) fl :: L) := (rNew_x pages size hf).mono fun r M hh => ⟨M, Imp.refl _, hh.1 hm⟩
theorem rnewh_no (pages size : Int) {fv : Value} (hf : FaultsIn L fv fl) (hm : ¬ HostS.mayBe pages size fl) : Con Tryz.prog 37 [.int .i64 pages, .int .i64 size, fv] L (fun r M => r = .tuple #[.pointer none, nvv 2] ∧ M = L) := (rNew_x pages size hf).mono fun r M hh => ⟨M, Imp.refl _, hh.2 hm⟩
end
theorem load_len {s : PS} {h : HostS.HS} (hk : PagerS.Ok s) (n : Int) : (PagerS.loadP s h n).1.1.length ≤ 4096 := by
  have ht := hk.t1
  have hf : ∀ (s : PS) (h : HostS.HS), s.text ≤ 4096 → (PagerS.fetchP s h n).1.1.length ≤ 4096 := by
    intro s h ht
    unfold PagerS.fetchP
    split
    · dsimp only
      split
      · split
        · exact pgOpenR_len _ _ _
        · exact Nat.zero_le _
      · exact Nat.zero_le _
    · simpa using ht
  with_unfolding_all unfold PagerS.loadP
  split
  · split
    · rename_i f hfr
      have := hk.len f (PagerS.frOf_mem hfr).1
      dsimp only; omega
    · dsimp only
      split
      · exact hf _ _ (by rw [(roomP_same (h := h) hk).2.2.1]; exact ht)
      · exact Nat.zero_le _
  · exact Nat.zero_le _
/-- What both pagers and what was answered are in the midst of a play. -/
structure PP (i : Nat) (ps qs : List Part) (s : PS) (h : HostS.HS) : Prop where
  ov : Over s h
  pot : PagerS.pot s h ≤ i + 1
  wr : s.writes ≤ 16 * i
  same : ps.map (·.2.2) = qs.map (·.2.2)
  many : ps.length ≤ i
  len : ∀ p ∈ ps, p.2.2.length ≤ 4096
  hi : PagerS.HI s h
theorem PP.qlen {i : Nat} {ps qs : List Part} {s : PS} {h : HostS.HS} (k : PP i ps qs s h) : qs.length = ps.length := by simpa using (congrArg List.length k.same).symm
theorem PP.ops {i : Nat} {ps qs : List Part} {s : PS} {h : HostS.HS} (k : PP i ps qs s h) : h.ops ≤ i + 1 := Nat.le_trans (PagerS.pot_ops s h) k.pot
theorem PP.load {i : Nat} {ps qs : List Part} {s : PS} {h : HostS.HS} (k : PP i ps qs s h) (hk : PagerS.Ok s) (n : Int) (a b : Option Addr) (c d : Nat) : PP (i + 1) (ps ++ [(a, c, (PagerS.loadP s h n).1.1)]) (qs ++ [(b, d, (PagerS.loadP s h n).1.1)]) (PagerS.loadP s h n).2.1 (PagerS.loadP s h n).2.2 := by
  refine ⟨(PagerS.near_load s h n).over k.ov, ?_, ?_, ?_, ?_, ?_, k.hi.load hk n⟩
  · have := PagerS.pot_load (h := h) hk n; have := k.pot; omega
  · have := (PagerS.near_load s h n).writes; have := k.wr; omega
  · rw [List.map_append, List.map_append, k.same]; rfl
  · have := k.many; rw [List.length_append]; simp; omega
  · intro p hp
    rcases List.mem_append.1 hp with hp|hp
    · exact k.len p hp
    · obtain rfl := List.mem_singleton.1 hp
      exact load_len hk n
theorem PP.again {i : Nat} {ps qs : List Part} {s : PS} {h : HostS.HS} (k : PP i ps qs s h) (hk : PagerS.Ok s) (n : Int) : PP (i + 1) ps qs (PagerS.loadP s h n).2.1 (PagerS.loadP s h n).2.2 := by
  refine ⟨(PagerS.near_load s h n).over k.ov, ?_, ?_, k.same, Nat.le_succ_of_le k.many, k.len, k.hi.load hk n⟩
  · have := PagerS.pot_load (h := h) hk n; have := k.pot; omega
  · have := (PagerS.near_load s h n).writes; have := k.wr; omega
theorem PP.save {i : Nat} {ps qs : List Part} {s : PS} {h : HostS.HS} (k : PP i ps qs s h) (hk : PagerS.Ok s) (n : Int) (t : List Byte) : PP (i + 1) ps qs (PagerS.saveP s h n t).2.1 (PagerS.saveP s h n t).2.2 := by
  refine ⟨(PagerS.near_save s h n t).over k.ov, ?_, ?_, k.same, Nat.le_succ_of_le k.many, k.len, k.hi.save hk n t⟩
  · have := PagerS.pot_save (h := h) hk n t; have := k.pot; omega
  · have := (PagerS.near_save s h n t).writes; have := k.wr; omega
theorem PP.flush {i : Nat} {ps qs : List Part} {s : PS} {h : HostS.HS} (k : PP i ps qs s h) (hk : PagerS.Ok s) : PP (i + 1) ps qs (PagerS.flushP s h).2.1 (PagerS.flushP s h).2.2 := by
  refine ⟨(PagerS.near_flush hk h).over k.ov, ?_, ?_, k.same, Nat.le_succ_of_le k.many, k.len, k.hi.flush hk⟩
  · have := PagerS.pot_flush (h := h) hk; have := k.pot; omega
  · have := (PagerS.near_flush hk h).writes; have := k.wr; omega
theorem PP.on {i : Nat} {ps qs : List Part} {s : PS} {h : HostS.HS} (k : PP i ps qs s h) : PP (i + 1) ps qs s h := ⟨k.ov, Nat.le_succ_of_le k.pot, by have := k.wr; omega, k.same, Nat.le_succ_of_le k.many, k.len, k.hi⟩
abbrev LP := Nat × (List Part × Option Addr × Nat) × (List Part × Option Addr × Nat) × PS × HostS.HS
section
variable {L : List Asrt} {x : PLifeV}
theorem pplays_no (hi : PIn L x) (hm : ¬ HostS.mayBe x.pages_ x.size_ (flts x)) : Con Tryz.prog 8 [.agg (pcs x)] L (fun r M => r = .bool true ∧ L = M) := by
  refine Con.get (fun w0 w F H => hi.flt.rd.len H) ?_
  rintro ⟨fa, fc, hfv⟩
  have hk := hi.key
  have hfl := hi.flt.len
  have hlen := pcs_len hk
  have hflt := pcs_faults hk
  rw [hfv] at hflt
  have hnw := new_no (L := L) x.pages_ x.size_ (by omega) hi.flt.ok hi.flt.rd hm
  have hrn := rnewh_no (L := L) x.pages_ x.size_ hi.flt hm
  rw [hfv] at hnw hrn
  refine fn_x Tryz.func8 rfl rfl rfl Tryz.mixed (by kernel_rfl) ?_
  intro w0
  refine Y1 ?_
  refine Zh5 rfl ?_; intro b1
  refine Y4 ?_
  refine Zhp rfl qH (pcs_pages) ?_
  refine Y1 ?_
  refine Zhp rfl qH (pcs_size) ?_
  refine Y1 ?_
  refine Zhp rfl qH (hflt) ?_
  refine Zh8 rfl (by kernel_rfl) (hnw) rfl qT ?_
  rintro _ _ ⟨rfl, rfl⟩
  refine Y9 ?_
  refine Zhp rfl qH (pcs_pages) ?_
  refine Y1 ?_
  refine Zhp rfl qH (pcs_size) ?_
  refine Y1 ?_
  refine Zhp rfl qH (hflt) ?_
  refine Zh8 rfl (by kernel_rfl) (hrn) rfl qT ?_
  rintro _ _ ⟨rfl, rfl⟩
  refine Y10 ?_
  refine Zhg (Zmk (a := 2) (b := 2) rfl rfl) ?_
  refine Zhn 49 rfl (decide_eq_false ((fun hh => hh rfl))) ?_
  refine Y3 ?_
  refine Zhm 52 rfl (decide_eq_true ((show (2 : Nat) ≠ 0 by omega))) ?_
  refine Y6 ?_
  refine Zhg (Zmj (a := 2) (b := 2) rfl rfl) ?_
  refine Zhm 56 rfl (decide_eq_true (rfl)) ?_
  refine Y1 ?_
  first|refine Y0 ?_|(refine Zhh rfl ?_; (refine Zh8 rfl (by kernel_rfl) (plWorks_x) rfl qT ?_); (rintro _ _ ⟨rfl, rfl⟩); (refine Zg2 qA ?_))
  refine V3 ?_
  refine rx1 (Zha rfl (Zg7)) ?_
  exact ⟨_, ⟨rfl, rfl⟩, qI⟩
theorem pplays_zn (hi : PIn L x) (hmb : HostS.mayBe x.pages_ x.size_ (flts x)) (hz : newR (hs0 x) x.window_ ≠ 0) : Con Tryz.prog 8 [.agg (pcs x)] L (fun r M => r = .bool true ∧ L = M) := by
  refine Con.get (fun w0 w F H => hi.flt.rd.len H) ?_
  rintro ⟨fa, fc, hfv⟩
  have hk := hi.key
  have hfl := hi.flt.len
  have hlen := pcs_len hk
  have hflt := pcs_faults hk
  rw [hfv] at hflt
  have hnw := new_ok (L := L) x.pages_ x.size_ (by omega) hi.flt.ok hi.flt.rd hmb
  have hrn := rnewh_ok (L := L) x.pages_ x.size_ hi.flt hmb
  have hpn := fun ph => pnew_no (ph := ph) (h := hs0 x) hk x.round_ hz
  have hrp := fun q => rpnew_no (q := q) (h := hs0 x) (fl := flts x) hk x.round_ hz
  rw [hfv] at hnw hrn
  refine fn_x Tryz.func8 rfl rfl rfl Tryz.mixed (by kernel_rfl) ?_
  intro w0
  refine Y1 ?_
  refine Zh5 rfl ?_; intro b1
  refine Y4 ?_
  refine Zhp rfl qH (pcs_pages) ?_
  refine Y1 ?_
  refine Zhp rfl qH (pcs_size) ?_
  refine Y1 ?_
  refine Zhp rfl qH (hflt) ?_
  refine Zh8 rfl (by kernel_rfl) (hnw) rfl qT ?_
  rintro _ _ ⟨ph, rfl, rfl⟩
  refine Y9 ?_
  refine Zhp rfl qH (pcs_pages) ?_
  refine Y1 ?_
  refine Zhp rfl qH (pcs_size) ?_
  refine Y1 ?_
  refine Zhp rfl qH (hflt) ?_
  refine Zh8 rfl (by kernel_rfl) (hrn) rfl qT ?_
  rintro _ _ ⟨q, rfl, rfl⟩
  refine Y10 ?_
  refine Zhg (Zmk (a := 0) (b := 0) rfl rfl) ?_
  refine Zhn 49 rfl (decide_eq_false ((fun hh => hh rfl))) ?_
  refine Y3 ?_
  refine Zhn 52 rfl (decide_eq_false ((fun hh => hh rfl))) ?_
  refine V3 ?_
  refine Zgp (Imp.arr (N := hostA ph (hs0 x) :: refA q (hs0 x) (flts x) :: cl b1 (pcs x) 58 :: L) qV) ?_
  refine Y2 ?_
  refine Zhg (Zol rfl) ?_
  refine Y1 ?_
  refine Zhq (n := 32) rfl qH qZ (pcs_key hk) ?_
  refine Y1 ?_
  refine Zhp rfl qH (pcs_round hk) ?_
  refine Y1 ?_
  refine Zhp rfl qH (pcs_window) ?_
  refine Zh8 rfl (by kernel_rfl) (hpn ph) rfl qT ?_
  rintro _ _ ⟨rfl, rfl⟩
  refine Y10 ?_
  refine Zhq (n := 32) rfl qH qZ (pcs_key hk) ?_
  refine Y1 ?_
  refine Zhp rfl qH (pcs_round hk) ?_
  refine Y1 ?_
  refine Zhp rfl qH (pcs_window) ?_
  refine Zh8 rfl (by kernel_rfl) (hrp q) rfl qT ?_
  rintro _ _ ⟨rfl, rfl⟩
  refine Y10 ?_
  refine Zhg (Zmk (a := newR (hs0 x) x.window_) (b := newR (hs0 x) x.window_) rfl rfl) ?_
  refine Zhn 85 rfl (decide_eq_false ((fun hh => hh rfl))) ?_
  refine Y3 ?_
  refine Zhm 88 rfl (decide_eq_true (hz)) ?_
  refine Y6 ?_
  refine Zhg (Zmj (a := newR (hs0 x) x.window_) (b := newR (hs0 x) x.window_) rfl rfl) ?_
  refine Zhm 92 rfl (decide_eq_true (rfl)) ?_
  refine Y3 ?_
  refine Zhm 95 rfl (rfl) ?_
  refine Y2 ?_
  first|refine Y0 ?_|(refine Zhh rfl ?_; (refine Zh8 rfl (by kernel_rfl) (plWorks_x) rfl qT ?_); (rintro _ _ ⟨rfl, rfl⟩); (refine Zg2 qA ?_))
  refine V3 ?_
  refine rx1 (Zha rfl (Zg7)) ?_
  exact ⟨_, ⟨rfl, rfl⟩, qI⟩
end
end Go.Sl

/- trystlaw13: PagerPlays where there is a pager, walked. -/
set_option maxHeartbeats 4000000
set_option maxRecDepth 10000
set_option linter.unusedVariables false
set_option linter.unusedSimpArgs false
namespace Go.Sl
open Go Go.Proofs
attribute [local irreducible] pt pur ex all den denOps denS xOps xC cX CX xthen xblk xcut xloop xng retX resX Calls PV Rd Con
attribute [local irreducible] hostA pgA refA rpA PagerS.loadP PagerS.saveP PagerS.flushP pcs
attribute [local irreducible] ocells
open PagerS (PS Over)
section
variable {L : List Asrt} {x : PLifeV}
abbrev rowA (a : Option Addr) (c : Nat) (ps : List Part) : Asrt := own 33 1 (.slice a ps.length c) ps.length (ps.map vP)
theorem rowA_snoc {a : Option Addr} {c : Nat} {ps : List Part} {p : Part} {M : List Asrt} : Imp (own 33 1 (.slice a (ps.length + 1) c) (ps.length + 1) (ps.map vP ++ [vP p]) :: ownP p :: star ownP ps :: M) (rowA a c (ps ++ [p]) :: star ownP (ps ++ [p]) :: M) := by
  unfold rowA
  rw [List.map_append, List.length_append]
  exact Imp.cons star_snoc
theorem set60 (l : List Byte) (i : Nat) : (l.map u8b).toArray.setIfInBounds i (.int .u8 60) = ((l.set i 60#8).map u8b).toArray := by
  rw [List.map_set]
  apply Array.ext'
  simp
  rfl
theorem pplays_ok (hi : PIn L x) (hup : x.script_.length ≤ 1048576) (hmb : HostS.mayBe x.pages_ x.size_ (flts x)) (hz : newR (hs0 x) x.window_ = 0) : Con Tryz.prog 8 [.agg (pcs x)] L (fun r M => r = .bool true ∧ L = M) := by
  refine Con.get (fun w0 w F H => hi.flt.rd.len H) ?_
  rintro ⟨fa, fc, hfv⟩
  refine Con.get (fun w0 w F H => hi.ops.rd.len H) ?_
  rintro ⟨sa, sc, hsv⟩
  have hk := hi.key
  have hfl := hi.flt.len
  have hlen := pcs_len hk
  have hflt := pcs_faults hk
  rw [hfv] at hflt
  have hscr := pcs_script hk
  rw [hsv] at hscr
  have hops := hi.ops
  rw [hsv] at hops
  have hml := hops.len
  have hnw := new_ok (L := L) x.pages_ x.size_ (by omega) hi.flt.ok hi.flt.rd hmb
  have hrn := rnewh_ok (L := L) x.pages_ x.size_ hi.flt hmb
  have hpn := fun ph => pnew_ok (ph := ph) (h := hs0 x) hk x.round_ hz
  have hrp := fun q => rpnew_ok (q := q) (h := hs0 x) (fl := flts x) hk x.round_ hz
  rw [hfv] at hnw hrn
  obtain ⟨m1, m2, m3, m4, m5, m6, m7⟩ := made_facts hk ⟨hmb, hz⟩
  have hpp0 : PP 0 [] [] (ps0 x) (hs0 x) := ⟨m2, m3, Nat.zero_le _, rfl, Nat.le_refl _, (fun p hp => by cases hp), PagerS.hi_fresh rfl m2⟩
  refine fn_x Tryz.func8 rfl rfl rfl Tryz.mixed (by kernel_rfl) ?_
  intro w0
  refine Y1 ?_
  refine Zh5 rfl ?_; intro b1
  refine Y4 ?_
  refine Zhp rfl qH (pcs_pages) ?_
  refine Y1 ?_
  refine Zhp rfl qH (pcs_size) ?_
  refine Y1 ?_
  refine Zhp rfl qH (hflt) ?_
  refine Zh8 rfl (by kernel_rfl) (hnw) rfl qT ?_
  rintro _ _ ⟨ph, rfl, rfl⟩
  refine Y9 ?_
  refine Zhp rfl qH (pcs_pages) ?_
  refine Y1 ?_
  refine Zhp rfl qH (pcs_size) ?_
  refine Y1 ?_
  refine Zhp rfl qH (hflt) ?_
  refine Zh8 rfl (by kernel_rfl) (hrn) rfl qT ?_
  rintro _ _ ⟨q, rfl, rfl⟩
  refine Y10 ?_
  refine Zhg (Zmk (a := 0) (b := 0) rfl rfl) ?_
  refine Zhn 49 rfl (decide_eq_false ((fun hh => hh rfl))) ?_
  refine Y3 ?_
  refine Zhn 52 rfl (decide_eq_false ((fun hh => hh rfl))) ?_
  refine V3 ?_
  refine Zgp (Imp.arr (N := hostA ph (hs0 x) :: refA q (hs0 x) (flts x) :: cl b1 (pcs x) 58 :: L) qV) ?_
  refine Y2 ?_
  refine Zhg (Zol rfl) ?_
  refine Y1 ?_
  refine Zhq (n := 32) rfl qH qZ (pcs_key hk) ?_
  refine Y1 ?_
  refine Zhp rfl qH (pcs_round hk) ?_
  refine Y1 ?_
  refine Zhp rfl qH (pcs_window) ?_
  refine Zh8 rfl (by kernel_rfl) (hpn ph) rfl qT ?_
  rintro _ _ ⟨p, rfl, rfl⟩
  refine Y10 ?_
  refine Zhq (n := 32) rfl qH qZ (pcs_key hk) ?_
  refine Y1 ?_
  refine Zhp rfl qH (pcs_round hk) ?_
  refine Y1 ?_
  refine Zhp rfl qH (pcs_window) ?_
  refine Zh8 rfl (by kernel_rfl) (hrp q) rfl qT ?_
  rintro _ _ ⟨rp, rfl, rfl⟩
  refine Y10 ?_
  refine Zhg (Zmk (a := 0) (b := 0) rfl rfl) ?_
  refine Zhn 85 rfl (decide_eq_false ((fun hh => hh rfl))) ?_
  refine Y3 ?_
  refine Zhn 88 rfl (decide_eq_false ((fun hh => hh rfl))) ?_
  refine Y6 ?_
  refine Zhn 101 rfl (rfl) ?_
  refine V11 ?_
  refine Zgp (Imp.arr (N := pgA p ph (ps0 x) :: hostA ph (hs0 x) :: rpA rp q (ps0 x) :: refA q (hs0 x) (flts x) :: cl b1 (pcs x) 58 :: L) qV) ?_
  generalize ps0 x = s0 at *
  generalize hs0 x = h0 at *
  refine Zgo [(2, 2), (10, 20), (102, 194)] (by kernel_rfl) (fun z : LP => z.1 ≤ x.script_.length ∧ PP z.1 z.2.1.1 z.2.2.1.1 z.2.2.2.1 z.2.2.2.2)
    (fun z => rowA z.2.1.2.1 z.2.1.2.2 z.2.1.1 :: star ownP z.2.1.1 :: rowA z.2.2.1.2.1 z.2.2.1.2.2 z.2.2.1.1 :: star ownP z.2.2.1.1 :: pgA p ph z.2.2.2.1 :: hostA ph z.2.2.2.2 :: rpA rp q z.2.2.2.1 :: refA q z.2.2.2.2 (flts x) :: cl b1 (pcs x) 58 :: L)
    (fun z => [(12, nvv z.1), (10, .slice z.2.1.2.1 z.2.1.1.length z.2.1.2.2), (11, .slice z.2.2.1.2.1 z.2.2.1.1.length z.2.2.1.2.2)]) (fun z => x.script_.length - z.1) (0, ([], none, 0), ([], none, 0), s0, h0) ⟨Nat.zero_le _, hpp0⟩
    ((((star_nil (A := ownP)).trans (Imp.own_nil (E := 33) (size := 1))).trans (star_nil (A := ownP))).trans ((Imp.own_nil (E := 33) (size := 1)).trans (Imp.arr qV))) ⟨rfl, rfl, rfl, trivial⟩ ?_
  rintro ⟨i, ⟨ps, ka, kc⟩, ⟨qs, wa, wc⟩, s, h⟩ u ⟨hil, hpp⟩
  dsimp only at hil hpp ⊢
  have hov := hpp.ov
  have hop := hpp.ops
  have hwr := hpp.wr
  have hpl := hpp.many
  have hql := hpp.qlen
  refine Zgt (fun F w H => pg_ok (p := p) (ph := ph) (s := s) qH H) ?_
  intro hk1
  refine Y3 ?_
  refine Zhp rfl qH (hscr) ?_
  refine V3 ?_
  refine Zgg rfl (fun hB => ?_) (fun hB => ?_)
  · refine Zgt (fun F w H => (hops.rd.imp (Imp.arr (M := _) qV)).someAt (by omega) H) ?_
    rintro ⟨b, o, rfl⟩
    obtain ⟨hel, hell⟩ := hops.el _ (List.getElem_mem hB)
    refine Zgt (fun F w H => (hel.imp (Imp.arr (M := _) qV)).sh _ _ _ H) ?_
    rintro ⟨ta, tc, htv, htc, htcm⟩
    have hone : x.script_[i].cells.toArray.toList.all oneC = true := by simp [OpV.cells, oneC, htv]
    refine Y2 ?_
    refine Zhp rfl qH (hscr) ?_
    refine Y2 ?_
    refine Zfg rfl ((hops.rd.imp qI).agN opv_len (by omega) hB) ?_
    refine Zhz (cs := #[.int .i64 0, .int .i64 0, .slice none 0 0]) rfl ?_; intro b13
    first|refine Zhy rfl rfl qR qZ (by first|rfl|exact oneM_u8 _|exact oneL_u8 _|assumption|(simp [oneC]; done)) qZ ?_|refine Zhx rfl rfl qR qZ (by first|rfl|exact oneM_u8 _|exact oneL_u8 _|assumption|(simp [oneC]; done)) qZ rfl ?_
    refine V1 ?_
    by_cases k0 : x.script_[i].kind_ = 0
    · have hnx := fun a b c d => hpp.load hk1 x.script_[i].page_ a b c d
      have hll := load_len (h := h) hk1 x.script_[i].page_
      have hld := load_x (p := p) (ph := ph) hov (by omega) x.script_[i].page_
      have hrd := rload_x (p := rp) (q := q) (fl := flts x) hov (by omega) (by omega) x.script_[i].page_
      generalize (PagerS.loadP s h x.script_[i].page_).2.1 = s1 at *
      generalize (PagerS.loadP s h x.script_[i].page_).2.2 = h1 at *
      generalize (PagerS.loadP s h x.script_[i].page_).1.2 = e1 at *
      generalize (PagerS.loadP s h x.script_[i].page_).1.1 = B at *
      refine Y5 ?_
      refine Zhg (Zbr (b := 0) rfl rfl) ?_
      refine Zhm 121 rfl (decide_eq_true (k0)) ?_
      refine Y7 ?_
      refine Zh8 rfl (by kernel_rfl) (hld) rfl qT ?_
      rintro _ _ ⟨la, lc, rfl, rfl⟩
      refine Y11 ?_
      refine Zh8 rfl (by kernel_rfl) (hrd) rfl qT ?_
      rintro _ _ ⟨ra, rc, rfl, rfl⟩
      refine Y10 ?_
      refine Zhg (Zmk (a := e1) (b := e1) rfl rfl) ?_
      refine Zhn 138 rfl (decide_eq_false ((fun hh => hh rfl))) ?_
      refine Y3 ?_
      first|refine Y0 ?_|(refine Zhh rfl ?_; (refine Zh8 rfl (by kernel_rfl) (eqBytes_x (L := [ownB la lc B, ownB ra rc B]) (a := B) (b := B) (Bs.own .here) (Bs.own (.there .here))) rfl qT ?_); (rintro _ _ ⟨rfl, rfl⟩); (refine Zg2 qA ?_))
      refine Zhm 142 rfl (decide_eq_true (rfl)) ?_
      first|refine Y0 ?_|(refine Zhh rfl ?_; (refine Zhg (Zb0 rfl) ?_))
      refine Zhn 143 rfl (rfl) ?_
      refine Y6 ?_
      refine Zh7 (cs := #[.slice _ _ _]) (by omega) (by omega) rfl ?_; intro b147
      refine Zia rfl rfl qH (Rd.cl (xs := [.slice la B.length lc]) qH rfl qZ rfl) (by first|rfl|exact oneM_u8 _|exact oneL_u8 _|assumption|(simp [oneC]; done)) (by omega) qS ?_; intro a3 c3
      refine Y5 ?_
      refine Zh8 rfl (by kernel_rfl) (copyBytes_x (L := [ownB ra rc B]) (l := B) (Bs.own .here) (by omega)) rfl qT ?_
      rintro _ _ ⟨ca, cc, rfl, rfl⟩
      refine Y1 ?_
      refine Zh7 (cs := #[.slice _ _ _]) (by omega) (by omega) rfl ?_; intro b152
      refine Zia rfl rfl qH (Rd.cl (xs := [.slice ca B.length cc]) qH rfl qZ rfl) (by first|rfl|exact oneM_u8 _|exact oneL_u8 _|assumption|(simp [oneC]; done)) (by omega) qS ?_; intro a4 c4
      refine V7 ?_
      have hnx2 := hnx la ca lc cc
      refine Zgl (i + 1, (ps ++ [(la, lc, B)], a3, c3), (qs ++ [(ca, cc, B)], a4, c4), s1, h1) qO ⟨by dsimp only; omega, hnx2⟩ ?_ ⟨rfl, by dsimp only; rw [List.length_append]; rfl, by dsimp only; rw [List.length_append]; rfl, trivial⟩
      dsimp only
      have j1 := rowA_snoc (a := a3) (c := c3) (ps := ps) (p := (la, lc, B)) (M := pgA p ph s1 :: hostA ph h1 :: rpA rp q s1 :: refA q h1 (flts x) :: cl b1 (pcs x) 58 :: own 33 1 (.slice a4 (qs.length + 1) c4) (qs.length + 1) (qs.map vP ++ [vP (ca, cc, B)]) :: ownP (ca, cc, B) :: star ownP qs :: L)
      have j2 := rowA_snoc (a := a4) (c := c4) (ps := qs) (p := (ca, cc, B)) (M := pgA p ph s1 :: hostA ph h1 :: rpA rp q s1 :: refA q h1 (flts x) :: cl b1 (pcs x) 58 :: rowA a3 c3 (ps ++ [(la, lc, B)]) :: star ownP (ps ++ [(la, lc, B)]) :: L)
      exact ((Imp.arr qV).trans (j1.trans (Imp.arr qV))).trans (j2.trans (Imp.arr qV))
    by_cases k1 : x.script_[i].kind_ = 1
    · have hnx := hpp.save hk1 x.script_[i].page_ x.script_[i].text_
      have hsv1 := fun g => save_x (p := p) (ph := ph) (L := cl g ((spareL x.script_[i].text_).map u8b).toArray 5 :: L) hov (by omega) x.script_[i].page_ (bs_spare .here (by omega))
      have hrs1 := rsave_x (p := rp) (q := q) (fl := flts x) (L := L) hel (by omega) x.script_[i].page_ hov (by omega) (by omega)
      have hsp := spare_x (L := L) hel (by omega)
      have hkp := fun g => kept_x (L := cl g ((spareL x.script_[i].text_).map u8b).toArray 5 :: L) (g := g) .here (hel.imp Imp.tail) (by omega)
      generalize (PagerS.saveP s h x.script_[i].page_ x.script_[i].text_).2.1 = s1 at *
      generalize (PagerS.saveP s h x.script_[i].page_ x.script_[i].text_).2.2 = h1 at *
      generalize (PagerS.saveP s h x.script_[i].page_ x.script_[i].text_).1 = e1 at *
      rw [htv] at hrs1 hsp hkp
      have hcell : (x.script_[i].cells.toArray)[2]? = some (.slice ta x.script_[i].text_.length tc) := by rw [← htv]; rfl
      refine Y5 ?_
      refine Zhg (Zbr (b := 0) rfl rfl) ?_
      refine Zhn 121 rfl (decide_eq_false (k0)) ?_
      refine Y4 ?_
      refine Zhg (Zbr (b := 1) rfl rfl) ?_
      refine Zhm 155 rfl (decide_eq_true (k1)) ?_
      refine Y5 ?_
      refine Zhp rfl qH (hcell) ?_
      refine Zh8 rfl (by kernel_rfl) (hsp) rfl qT ?_
      rintro _ _ ⟨g, rfl, rfl⟩
      refine Y8 ?_
      refine Zh8 rfl (by kernel_rfl) (hsv1 g) rfl qT ?_
      rintro _ _ ⟨rfl, rfl⟩
      refine Y9 ?_
      refine Zhp rfl qH (hcell) ?_
      refine Zh8 rfl (by kernel_rfl) (hrs1) rfl qT ?_
      rintro _ _ ⟨rfl, rfl⟩
      refine Y1 ?_
      refine Zhg (Zmk (a := e1) (b := e1) rfl rfl) ?_
      refine Zhn 171 rfl (decide_eq_false ((fun hh => hh rfl))) ?_
      refine Y3 ?_
      first|refine Y0 ?_|(refine Zhh rfl ?_; (refine Zhp rfl qH (hcell) ?_))
      first|refine Y0 ?_|(refine Zhh rfl ?_; (refine Zh8 rfl (by kernel_rfl) (hkp g) rfl qT ?_); (rintro _ _ ⟨rfl, rfl⟩); (refine Zg2 qA ?_))
      first|refine Y0 ?_|(refine Zhh rfl ?_; (refine Zhg (Zb0 rfl) ?_))
      refine Zhn 177 rfl (rfl) ?_
      refine V6 ?_
      have hsl := spareL_len x.script_[i].text_
      generalize spareL x.script_[i].text_ = T0 at *
      generalize x.script_[i].text_.length = tn at *
      refine Zgo [(20, 20), (179, 187)] (by kernel_rfl) (fun z : Nat × List Byte => z.1 ≤ tn ∧ z.2.length = tn + 80) (fun z => cl g (z.2.map u8b).toArray 5 :: rowA ka kc ps :: star ownP ps :: rowA wa wc qs :: star ownP qs :: pgA p ph s1 :: hostA ph h1 :: rpA rp q s1 :: refA q h1 (flts x) :: cl b1 (pcs x) 58 :: L) (fun z => [(20, nvv z.1)]) (fun z => tn - z.1) (0, T0) ⟨Nat.zero_le _, hsl⟩ qI ⟨rfl, trivial⟩ ?_
      rintro ⟨k, T⟩ u2 ⟨hkl, hTl⟩
      dsimp only at hkl hTl ⊢
      refine V6 ?_
      refine Zgg rfl (fun hB2 => ?_) (fun hB2 => ?_)
      · refine Y4 ?_
        refine Zhs rfl (v := u8b 60#8) rfl rfl qR qZ (set60 T k) ?_
        refine V6 ?_
        exact Zgl (k + 1, T.set k 60#8) qO ⟨by dsimp only; omega, by dsimp only; rw [List.length_set]; exact hTl⟩ qI ⟨rfl, trivial⟩
      · refine V5 ?_
        exact Zgl (i + 1, (ps, ka, kc), (qs, wa, wc), s1, h1) qO ⟨by dsimp only; omega, hnx⟩ qI ⟨rfl, rfl, rfl, trivial⟩
    by_cases k2 : x.script_[i].kind_ = 2
    · have hnx := hpp.flush hk1
      have hf1 := flush_x (p := p) (ph := ph) hov (by omega)
      have hf2 := rflush_x (p := rp) (q := q) (fl := flts x) hov (by omega) (by omega)
      generalize (PagerS.flushP s h).2.1 = s1 at *
      generalize (PagerS.flushP s h).2.2 = h1 at *
      generalize (PagerS.flushP s h).1 = e1 at *
      refine Y5 ?_
      refine Zhg (Zbr (b := 0) rfl rfl) ?_
      refine Zhn 121 rfl (decide_eq_false (k0)) ?_
      refine Y4 ?_
      refine Zhg (Zbr (b := 1) rfl rfl) ?_
      refine Zhn 155 rfl (decide_eq_false (k1)) ?_
      refine Y4 ?_
      refine Zhg (Zbr (b := 2) rfl rfl) ?_
      refine Zhm 189 rfl (decide_eq_true (k2)) ?_
      refine Y5 ?_
      refine Zh8 rfl (by kernel_rfl) (hf1) rfl qT ?_
      rintro _ _ ⟨rfl, rfl⟩
      refine Y2 ?_
      refine Zh8 rfl (by kernel_rfl) (hf2) rfl qT ?_
      rintro _ _ ⟨rfl, rfl⟩
      refine Y1 ?_
      refine Zhg (Zmk (a := e1) (b := e1) rfl rfl) ?_
      refine Zhn 194 rfl (decide_eq_false ((fun hh => hh rfl))) ?_
      refine V7 ?_
      exact Zgl (i + 1, (ps, ka, kc), (qs, wa, wc), s1, h1) qO ⟨by dsimp only; omega, hnx⟩ qI ⟨rfl, rfl, rfl, trivial⟩
    · refine Y5 ?_
      refine Zhg (Zbr (b := 0) rfl rfl) ?_
      refine Zhn 121 rfl (decide_eq_false (k0)) ?_
      refine Y4 ?_
      refine Zhg (Zbr (b := 1) rfl rfl) ?_
      refine Zhn 155 rfl (decide_eq_false (k1)) ?_
      refine Y4 ?_
      refine Zhg (Zbr (b := 2) rfl rfl) ?_
      refine Zhn 189 rfl (decide_eq_false (k2)) ?_
      refine Y6 ?_
      refine Zh8 rfl (by kernel_rfl) (told13_x (p := p) (ph := ph) (rp := rp) (q := q) (s := s)) rfl qT ?_
      rintro _ _ ⟨rfl, rfl⟩
      refine Y1 ?_
      refine Zhg (Zb0 rfl) ?_
      refine Zhn 119 rfl (rfl) ?_
      refine V7 ?_
      exact Zgl (i + 1, (ps, ka, kc), (qs, wa, wc), s, h) qO ⟨by dsimp only; omega, hpp.on⟩ qI ⟨rfl, rfl, rfl, trivial⟩
  · have hie : i = x.script_.length := by omega
    have hps := hpp.len
    have hsame := hpp.same
    refine Zgt (fun F w H => host_ok (p := ph) (s := h) qH H) ?_
    intro hho
    have hll := hho.log
    obtain ⟨ol, hol2⟩ := sub_of (hi_tok hpp.hi hk1)
    have hoc : h.log.flatMap tcells = ol.flatMap ocells := by rw [hol2, List.flatMap_map]; with_unfolding_all rfl
    have holl : h.log.length = ol.length := by rw [hol2, List.length_map]
    refine Ct.o ?_
    refine Zgp (Imp.arr (N := refA q h (flts x) :: rowA ka kc ps :: star ownP ps :: rowA wa wc qs :: star ownP qs :: pgA p ph s :: hostA ph h :: rpA rp q s :: cl b1 (pcs x) 58 :: L) qV) ?_
    refine x_refA fun wl ra rc va vc la lc hrok => ?_
    have hback : Imp (refL q h (flts x) wl ra rc va vc la lc ++ (pgA p ph s :: hostA ph h :: rpA rp q s :: cl b1 (pcs x) 58 :: L)) (refA q h (flts x) :: (pgA p ph s :: hostA ph h :: rpA rp q s :: cl b1 (pcs x) 58 :: L)) := refA_mk hrok
    simp only [List.cons_append, List.nil_append] at hback ⊢
    have hps2 : ∀ p ∈ ps, p.2.2.length ≤ 140737488355000 := fun p hp => by have := hps p hp; omega
    have hbs1 : ∀ p ∈ ps, Bs [rowA ka kc ps, star ownP ps, rowA wa wc qs, star ownP qs] (vP p) p.2.2 := fun p hp => star_bs hp (fun R => ownP_bs .here) (.there .here)
    have hbs2 : ∀ p ∈ qs, Bs [rowA ka kc ps, star ownP ps, rowA wa wc qs, star ownP qs] (vP p) p.2.2 := fun p hp => star_bs hp (fun R => ownP_bs .here) (.there (.there (.there .here)))
    refine Ct.o ?_
    refine Zij ([cl q (rcl h.pages h.size ra (flts x).length rc va wl.length vc h.reg h.ops la h.log.length lc h.down) 92]) [2, 6] (.q 0 (.q 1 (.e 2 true (.q 3 (.q 4 (.q 5 (.q 7 (.q 8 (.q 9 (.r 10 (.e 6 true (.e 11 false (.q 12 (.q 13 (.q 14 (.q 15 (.q 16 (.e 17 false (.q 18 (.q 19 (.q 20 (.q 21 (.e 22 false (.q 23 (.q 24 .nil))))))))))))))))))))))))) (by kernel_rfl) (by kernel_rfl) (Imp.arr qV) ?_
    refine W2 ?_
    refine Ziq rfl ?_
    refine Zh8 rfl (by kernel_rfl) (told13_x (p := p) (ph := ph) (rp := rp) (q := q) (s := s)) rfl qT ?_
    rintro _ _ ⟨rfl, rfl⟩
    refine Y1 ?_
    refine Zg3 ⟨fun _ => Imp.arr qV, ?_⟩
    refine Zim rfl (Zb0 rfl) ?_
    refine Zi6 198 rfl (rfl) ?_
    refine W6 ?_
    refine Ziq rfl ?_
    first|refine Y0 ?_|(refine Zhh rfl ?_; (refine Zh8 rfl (by kernel_rfl) (log_x (p := ph) (s := h) (by omega)) rfl qT ?_); (rintro _ _ ⟨l1, c1, rfl, rfl⟩); (refine Zg2 qA ?_))
    refine Zg3 ⟨fun _ => Imp.arr qV, ?_⟩
    refine Ziq rfl ?_
    first|refine Y0 ?_|(refine Zhh rfl ?_; (refine Zh8 rfl (by kernel_rfl) (sameLog13_x (L := [ownLog l1 c1 h.log, own 65 15 (.slice la h.log.length lc) h.log.length (h.log.flatMap tcells)]) (a := ol) (b := ol) (by rw [← holl, ← hoc]; exact Rd.own .here) (by rw [← holl, ← hoc]; exact Rd.own (.there .here)) (by omega) (by omega)) rfl qT ?_); (rintro _ _ ⟨rfl, rfl⟩); (refine Zg2 qA ?_))
    refine Zg3 ⟨(fun hh => Bool.noConfusion hh), ?_⟩
    refine Zi5 206 rfl (decide_eq_true (rfl)) ?_
    first|refine Zio rfl rfl ?_|refine Zip rfl rfl ?_|refine Zin rfl rfl (Zb0 rfl) ?_
    refine Zi6 207 rfl (rfl) ?_
    refine W4 ?_
    refine Ziq rfl ?_
    first|refine Y0 ?_|(refine Zhh rfl ?_; (refine Zh8 rfl (by kernel_rfl) (eqRows_x (L := [rowA ka kc ps, star ownP ps, rowA wa wc qs, star ownP qs]) (ps := ps) (qs := qs) (Rd.own .here) (Rd.own (.there (.there .here))) hbs1 hbs2 hsame (by omega)) rfl qT ?_); (rintro _ _ ⟨rfl, rfl⟩); (refine Zg2 qA ?_))
    refine Zg3 ⟨(fun hh => Bool.noConfusion hh), ?_⟩
    first|refine Zio rfl rfl ?_|refine Zip rfl rfl ?_|refine Zin rfl rfl (Zb0 rfl) ?_
    refine Zi6 213 rfl (rfl) ?_
    refine W3 ?_
    refine Ziq rfl ?_
    first|refine Y0 ?_|(refine Zhh rfl ?_; (refine Zh8 rfl (by kernel_rfl) (apart_x (L := [rowA ka kc ps]) ps rfl (by omega) hps2 (Rd.own .here)) rfl qT ?_); (rintro _ _ ⟨rfl, rfl⟩); (refine Zg2 qA ?_))
    refine Zg3 ⟨(fun hh => Bool.noConfusion hh), ?_⟩
    first|refine Zio rfl rfl ?_|refine Zip rfl rfl ?_|refine Zin rfl rfl (Zb0 rfl) ?_
    refine Zi6 218 rfl (rfl) ?_
    refine W2 ?_
    refine V1 ?_
    refine Zgp ((Imp.arr qV).trans hback) ?_
    refine V3 ?_
    refine Zgo [(2, 2), (21, 26), (220, 261)] (by kernel_rfl) (fun z : Nat × PS × HostS.HS => z.1 ≤ x.script_.length ∧ PP (x.script_.length + z.1) ps qs z.2.1 z.2.2)
      (fun z => refA q z.2.2 (flts x) :: pgA p ph z.2.1 :: hostA ph z.2.2 :: rpA rp q z.2.1 :: cl b1 (pcs x) 58 :: L) (fun z => [(21, nvv z.1)]) (fun z => x.script_.length - z.1) (0, s, h) ⟨Nat.zero_le _, by rw [← hie]; exact hpp⟩ qI ⟨rfl, trivial⟩ ?_
    clear hsame hps hps2 hbs1 hbs2 hback hho hll hol2 hoc holl hrok hov hop hwr hpl hql hk1 hpp
    rintro ⟨j, s, h⟩ u ⟨hjl, hpp⟩
    dsimp only at hjl hpp ⊢
    have hov := hpp.ov
    have hop := hpp.ops
    have hwr := hpp.wr
    refine Zgt (fun F w H => pg_ok (p := p) (ph := ph) (s := s) qH H) ?_
    intro hk1
    refine Y3 ?_
    refine Zhp rfl qH (hscr) ?_
    refine V3 ?_
    refine Zgg rfl (fun hB2 => ?_) (fun hB2 => ?_)
    · refine Zgt (fun F w H => (hops.rd.imp (Imp.arr (M := _) qV)).someAt (by omega) H) ?_
      rintro ⟨b, o, rfl⟩
      have hnx := hpp.again hk1 x.script_[j].page_
      have hld := load_x (p := p) (ph := ph) hov (by omega) x.script_[j].page_
      have hrd := rload_x (p := rp) (q := q) (fl := flts x) hov (by omega) (by omega) x.script_[j].page_
      generalize (PagerS.loadP s h x.script_[j].page_).2.1 = s1 at *
      generalize (PagerS.loadP s h x.script_[j].page_).2.2 = h1 at *
      generalize (PagerS.loadP s h x.script_[j].page_).1.2 = e1 at *
      generalize (PagerS.loadP s h x.script_[j].page_).1.1 = B at *
      refine Y2 ?_
      refine Zhp rfl qH (hscr) ?_
      refine Y3 ?_
      refine Zff rfl (((hops.rd.imp qI).atN opv_len hB2 (j := 1) (by omega) rfl)) ?_
      refine Y5 ?_
      refine Zh8 rfl (by kernel_rfl) (lies_x (p := ph) (s := h) x.script_[j].page_ (by omega)) rfl qT ?_
      rintro _ _ ⟨ya, yc, rfl, rfl⟩
      refine Y3 ?_
      refine Zh8 rfl (by kernel_rfl) (ra_lies (q := q) (s := h) (fl := flts x) x.script_[j].page_ (by omega)) rfl qT ?_
      rintro _ _ ⟨za, zc, rfl, rfl⟩
      refine Y1 ?_
      refine Zh8 rfl (by kernel_rfl) (eqBytes_x (L := [ownB ya yc (HostS.liesR h x.script_[j].page_), ownB za zc (HostS.liesR h x.script_[j].page_)]) (a := HostS.liesR h x.script_[j].page_) (b := HostS.liesR h x.script_[j].page_) (Bs.own .here) (Bs.own (.there .here))) rfl qT ?_
      rintro _ _ ⟨rfl, rfl⟩
      refine Y1 ?_
      refine Zhm 239 rfl (decide_eq_true (rfl)) ?_
      refine Zhg (Zb0 rfl) ?_
      refine Zhn 240 rfl (rfl) ?_
      refine Y5 ?_
      refine Zh8 rfl (by kernel_rfl) (hld) rfl qT ?_
      rintro _ _ ⟨la2, lc2, rfl, rfl⟩
      refine Y10 ?_
      refine Zh8 rfl (by kernel_rfl) (hrd) rfl qT ?_
      rintro _ _ ⟨ra2, rc2, rfl, rfl⟩
      refine Y10 ?_
      refine Zhg (Zmk (a := e1) (b := e1) rfl rfl) ?_
      refine Zhn 255 rfl (decide_eq_false ((fun hh => hh rfl))) ?_
      refine Y3 ?_
      first|refine Y0 ?_|(refine Zhh rfl ?_; (refine Zh8 rfl (by kernel_rfl) (eqBytes_x (L := [ownB la2 lc2 B, ownB ra2 rc2 B]) (a := B) (b := B) (Bs.own .here) (Bs.own (.there .here))) rfl qT ?_); (rintro _ _ ⟨rfl, rfl⟩); (refine Zg2 qA ?_))
      refine Zhm 259 rfl (decide_eq_true (rfl)) ?_
      first|refine Y0 ?_|(refine Zhh rfl ?_; (refine Zhg (Zb0 rfl) ?_))
      refine Zhn 260 rfl (rfl) ?_
      refine V8 ?_
      exact Zgl (j + 1, s1, h1) qO ⟨by dsimp only; omega, hnx⟩ qI ⟨rfl, trivial⟩
    · refine Zgt (fun F w H => host_ok (p := ph) (s := h) qH H) ?_
      intro hho
      have hll := hho.log
      obtain ⟨ol, hol2⟩ := sub_of (hi_tok hpp.hi hk1)
      have hoc : h.log.flatMap tcells = ol.flatMap ocells := by rw [hol2, List.flatMap_map]; with_unfolding_all rfl
      have holl : h.log.length = ol.length := by rw [hol2, List.length_map]
      refine Ct.o ?_
      refine x_refA fun wl ra rc va vc la lc hrok => ?_
      simp only [List.cons_append, List.nil_append]
      refine Ct.o ?_
      refine Zij ([cl q (rcl h.pages h.size ra (flts x).length rc va wl.length vc h.reg h.ops la h.log.length lc h.down) 92]) [2, 5] (.q 0 (.q 1 (.e 2 true (.q 3 (.q 4 (.q 6 (.q 7 (.q 8 (.r 9 (.e 5 true (.e 10 false (.q 11 (.q 12 (.e 13 false (.q 14 (.q 15 .nil)))))))))))))))) (by kernel_rfl) (by kernel_rfl) (Imp.arr qV) ?_
      refine W2 ?_
      refine Ziq rfl ?_
      refine Zh8 rfl (by kernel_rfl) (told13_x (p := p) (ph := ph) (rp := rp) (q := q) (s := s)) rfl qT ?_
      rintro _ _ ⟨rfl, rfl⟩
      refine Y1 ?_
      refine Zg3 ⟨fun _ => Imp.arr qV, ?_⟩
      refine W6 ?_
      refine Ziq rfl ?_
      first|refine Y0 ?_|(refine Zhh rfl ?_; (refine Zh8 rfl (by kernel_rfl) (log_x (p := ph) (s := h) (by omega)) rfl qT ?_); (rintro _ _ ⟨l1, c1, rfl, rfl⟩); (refine Zg2 qA ?_))
      refine Zg3 ⟨fun _ => Imp.arr qV, ?_⟩
      refine Ziq rfl ?_
      first|refine Y0 ?_|(refine Zhh rfl ?_; (refine Zh8 rfl (by kernel_rfl) (sameLog13_x (L := [ownLog l1 c1 h.log, own 65 15 (.slice la h.log.length lc) h.log.length (h.log.flatMap tcells)]) (a := ol) (b := ol) (by rw [← holl, ← hoc]; exact Rd.own .here) (by rw [← holl, ← hoc]; exact Rd.own (.there .here)) (by omega) (by omega)) rfl qT ?_); (rintro _ _ ⟨rfl, rfl⟩); (refine Zg2 qA ?_))
      refine Zg3 ⟨(fun hh => Bool.noConfusion hh), ?_⟩
      refine Zi5 272 rfl (decide_eq_true (rfl)) ?_
      refine W2 ?_
      refine Ziq rfl ?_
      first|refine Y0 ?_|(refine Zhh rfl ?_; (refine Zh8 rfl (by kernel_rfl) (plWorks_x) rfl qT ?_); (rintro _ _ ⟨rfl, rfl⟩); (refine Zg2 qA ?_))
      refine Zg3 ⟨(fun hh => Bool.noConfusion hh), ?_⟩
      refine W3 ?_
      refine Ct.o ?_
      refine rx1 (Zha rfl (Zg7)) ?_
      exact ⟨_, ⟨rfl, rfl⟩, qI⟩
end
end Go.Sl

/- trystlaw13: lives that come in. -/
set_option maxHeartbeats 4000000
set_option maxRecDepth 10000
set_option linter.unusedVariables false
set_option linter.unusedSimpArgs false
namespace Go.Sl
open Go Go.Proofs
attribute [local irreducible] pt pur ex all den denOps denS xOps xC cX CX xthen xblk xcut xloop xng retX resX Calls PV Rd Con
open PagerS (PS Over)
end Go.Sl

/- what the bound of an '..UptoSaid' gives: lengths. -/
set_option linter.unusedVariables false
set_option linter.unusedSimpArgs false
namespace Go.Sl
open Go Go.Proofs Go.ChangeShapes Go.WideShapes Go.ChangeAt Go.RowKit
open YthodgeekgpkieaaGreat (Rows.uptoBulk Rows.uptoBulkAll)
variable {H : Type} {enc : TypeId × Value → H} {P : Program} {w : World} {base : Nat} {spare : Nat → Bool} {held : Bool}
end Go.Sl

/- trystlaw13: what a life's bulk tells of its script. -/
set_option linter.unusedVariables false
set_option linter.unusedSimpArgs false
namespace Go.Sl
open Go Go.Proofs Go.ChangeShapes Go.WideShapes Go.ChangeAt Go.RowKit
section
variable {H : Type} {enc : TypeId × Value → H} {P : Program} {w : World} {base : Nat} {spare : Nat → Bool} {held : Bool}
end
end Go.Sl

/- trystlaw13: PagerPlays over lives that come in, of a bounded bulk. -/
set_option linter.unusedVariables false
set_option linter.unusedSimpArgs false
namespace Go.Sl
open Go Go.Proofs Go.ChangeShapes Go.WideShapes Go.ChangeAt Go.RowKit
theorem pplays_x {L : List Asrt} {x : PLifeV} (hi : PIn L x) (hup : x.script_.length ≤ 1048576) : Con Tryz.prog 8 [.agg (pcs x)] L (fun r M => r = .bool true ∧ L = M) := by
  by_cases hm : HostS.mayBe x.pages_ x.size_ (flts x)
  · by_cases hz : newR (hs0 x) x.window_ = 0
    · exact pplays_ok hi hup hm hz
    · exact pplays_zn hi hm hz
  · exact pplays_no hi hm
end Go.Sl

/- pager: a nil pager. -/
set_option maxHeartbeats 4000000
set_option maxRecDepth 10000
set_option linter.unusedVariables false
set_option linter.unusedSimpArgs false
namespace Go.Sl
open Go Go.Proofs
attribute [local irreducible] pt pur ex all den denOps denS xOps xC cX CX xthen xblk xcut xloop xng retX resX Calls PV Rd Con
theorem right_nil (n : Int) : Con Tryz.prog 53 [.pointer none, .int .i64 n] [] (fun r M => r = nvv 1 ∧ M = []) := by
  refine fn_x Tryz.func53 rfl rfl rfl Tryz.mixed (by kernel_rfl) ?_
  intro w0
  refine Y6 ?_
  refine Zhm 6 rfl (rfl) ?_
  refine V5 ?_
  refine rx1 (Zg9 rfl (Zg7)) ?_
  exact ⟨_, ⟨rfl, rfl⟩, qI⟩
theorem pages_nil : Con Tryz.prog 51 [.pointer none] [] (fun r M => r = nvv 0 ∧ M = []) := by
  refine fn_x Tryz.func51 rfl rfl rfl Tryz.mixed (by kernel_rfl) ?_
  intro w0
  refine Y6 ?_
  refine Zhm 4 rfl (rfl) ?_
  refine V5 ?_
  refine rx1 (Zg9 rfl (Zg7)) ?_
  exact ⟨_, ⟨rfl, rfl⟩, qI⟩
theorem text_nil : Con Tryz.prog 52 [.pointer none] [] (fun r M => r = nvv 0 ∧ M = []) := by
  refine fn_x Tryz.func52 rfl rfl rfl Tryz.mixed (by kernel_rfl) ?_
  intro w0
  refine Y6 ?_
  refine Zhm 4 rfl (rfl) ?_
  refine V5 ?_
  refine rx1 (Zg9 rfl (Zg7)) ?_
  exact ⟨_, ⟨rfl, rfl⟩, qI⟩
theorem held_nil : Con Tryz.prog 16 [.pointer none] [] (fun r M => r = .slice none 0 0 ∧ M = []) := by
  refine fn_x Tryz.func16 rfl rfl rfl Tryz.mixed (by kernel_rfl) ?_
  intro w0
  refine Y6 ?_
  refine Zhm 4 rfl (rfl) ?_
  refine V5 ?_
  refine rx1 (Zhc rfl (Zg7)) ?_
  exact ⟨_, ⟨rfl, rfl⟩, qI⟩
theorem most_nil : Con Tryz.prog 17 [.pointer none] [] (fun r M => r = nvv 0 ∧ M = []) := by
  refine fn_x Tryz.func17 rfl rfl rfl Tryz.mixed (by kernel_rfl) ?_
  intro w0
  refine Y6 ?_
  refine Zhm 4 rfl (rfl) ?_
  refine V5 ?_
  refine rx1 (Zg9 rfl (Zg7)) ?_
  exact ⟨_, ⟨rfl, rfl⟩, qI⟩
theorem writes_nil : Con Tryz.prog 21 [.pointer none] [] (fun r M => r = u32b 0#32 ∧ M = []) := by
  refine fn_x Tryz.func21 rfl rfl rfl Tryz.mixed (by kernel_rfl) ?_
  intro w0
  refine Y6 ?_
  refine Zhm 4 rfl (rfl) ?_
  refine V5 ?_
  refine rx1 (Zg9 rfl (Zg7)) ?_
  exact ⟨_, ⟨rfl, rfl⟩, qI⟩
theorem err_nil : Con Tryz.prog 18 [.pointer none] [] (fun r M => r = nvv 1 ∧ M = []) := by
  refine fn_x Tryz.func18 rfl rfl rfl Tryz.mixed (by kernel_rfl) ?_
  intro w0
  refine Y6 ?_
  refine Zhm 4 rfl (rfl) ?_
  refine V5 ?_
  refine rx1 (Zg9 rfl (Zg7)) ?_
  exact ⟨_, ⟨rfl, rfl⟩, qI⟩
theorem flush_nil : Con Tryz.prog 34 [.pointer none] [] (fun r M => r = nvv 1 ∧ M = []) := by
  refine fn_x Tryz.func34 rfl rfl rfl Tryz.mixed (by kernel_rfl) ?_
  intro w0
  refine Y6 ?_
  refine Zhm 7 rfl (rfl) ?_
  refine V5 ?_
  refine rx1 (Zg9 rfl (Zg7)) ?_
  exact ⟨_, ⟨rfl, rfl⟩, qI⟩
theorem save_nil (n : Int) (v : Value) : Con Tryz.prog 12 [.pointer none, .int .i64 n, v] [] (fun r M => r = nvv 1 ∧ M = []) := by
  refine fn_x Tryz.func12 rfl rfl rfl Tryz.mixed (by kernel_rfl) ?_
  intro w0
  refine Y6 ?_
  refine Zh8 rfl (by kernel_rfl) (right_nil n) rfl qT ?_
  rintro _ _ ⟨rfl, rfl⟩
  refine Y6 ?_
  refine Zhm 13 rfl (decide_eq_true ((show (1 : Nat) ≠ 0 by omega))) ?_
  refine V6 ?_
  refine rx1 (Zg9 rfl (Zg7)) ?_
  exact ⟨_, ⟨rfl, rfl⟩, qI⟩
theorem load_nil (n : Int) : Con Tryz.prog 14 [.pointer none, .int .i64 n] [] (fun r M => r = .tuple #[.slice none 0 0, nvv 1] ∧ M = []) := by
  refine fn_x Tryz.func14 rfl rfl rfl Tryz.mixed (by kernel_rfl) ?_
  intro w0
  refine Y7 ?_
  refine Zh8 rfl (by kernel_rfl) (right_nil n) rfl qT ?_
  rintro _ _ ⟨rfl, rfl⟩
  refine Y6 ?_
  refine Zhm 17 rfl (decide_eq_true ((show (1 : Nat) ≠ 0 by omega))) ?_
  refine V7 ?_
  refine rx2 (Zhc rfl (Zg9 rfl (Zg7))) ?_
  exact ⟨_, ⟨rfl, rfl⟩, qI⟩
end Go.Sl

/- trystlaw13: PagerKnown, walked. -/
set_option maxHeartbeats 4000000
set_option maxRecDepth 10000
set_option linter.unusedVariables false
set_option linter.unusedSimpArgs false
namespace Go.Sl
open Go Go.Proofs
attribute [local irreducible] pt pur ex all den denOps denS xOps xC cX CX xthen xblk xcut xloop xng retX resX Calls PV Rd Con
attribute [local irreducible] hostA pgA refA rpA
open PagerS (PS Over)
abbrev nilS : Value := .slice none 0 0
theorem ops_flat : ∀ (l : List OpV), (l.flatMap OpV.cells).length = l.length * 3
  | [] => rfl
  | o :: r => by rw [List.flatMap_cons, List.length_append, ops_flat r, opv_len, List.length_cons]; omega
theorem opsIn_cl {L L' : List Asrt} {g n : Nat} {ops : List OpV} (hm : Has L (cl g (ops.flatMap OpV.cells).toArray 75) L') (hn : ops.length = n) (hl : n ≤ 1000) (hel : ∀ o ∈ ops, Bs L o.text_V o.text_ ∧ o.text_.length ≤ 140737488351232) : OpsIn L (.slice (some ⟨g, 0, none⟩) n n) ops := by
  subst hn
  have h3 := ops_flat ops
  exact ⟨Rd.cl (o := 0) hm h3 (by rw [List.size_toArray, h3]; omega) (by simp only [Array.toList_extract, List.extract_eq_take_drop, Nat.zero_add, Nat.sub_zero, List.drop_zero]; exact List.take_of_length_le (by omega)), hel, by omega⟩
theorem faultIn_cl {L L' : List Asrt} {g : Nat} {x : FaultV} (hm : Has L (cl g x.cells.toArray 70) L') (hb : HostS.FOk (pF x)) : FaultsIn L (.slice (some ⟨g, 0, none⟩) 1 1) [pF x] :=
  ⟨Rd.cl (o := 0) hm rfl (by show 0 + 1 * 6 ≤ 6; omega) rfl, fun f hf => by obtain rfl := List.mem_singleton.1 hf; exact hb, by show 1 * 48 ≤ _; omega⟩
theorem faultIn_nil {L : List Asrt} : FaultsIn L nilS [] := ⟨Rd.nil, fun f hf => (by cases hf), by decide⟩
abbrev key0 : List Byte := List.replicate 32 0#8
def opsA (a b : Value) : List OpV := [⟨1, 1, a, [5#8, 6#8]⟩, ⟨0, 2, nilS, []⟩, ⟨0, 1, nilS, []⟩, ⟨1, 3, a, [5#8, 6#8]⟩, ⟨0, 0, nilS, []⟩, ⟨0, 1, nilS, []⟩, ⟨2, 0, nilS, []⟩, ⟨0, 4, nilS, []⟩, ⟨1, -1, nilS, []⟩, ⟨1, 0, b, [5#8]⟩]
def opsB (a : Value) : List OpV := [⟨1, 0, a, [5#8, 6#8]⟩, ⟨1, 1, a, [5#8, 6#8]⟩, ⟨1, 2, a, [5#8, 6#8]⟩, ⟨2, 0, nilS, []⟩, ⟨0, 0, nilS, []⟩, ⟨1, 0, a, [5#8, 6#8]⟩, ⟨0, 1, nilS, []⟩, ⟨0, 2, nilS, []⟩, ⟨0, 0, nilS, []⟩, ⟨2, 0, nilS, []⟩, ⟨0, 9, nilS, []⟩]
def opsC : List OpV := [⟨0, 0, nilS, []⟩, ⟨2, 0, nilS, []⟩]
def opsD (a : Value) : List OpV := [⟨1, 0, a, List.replicate 4096 0#8⟩, ⟨2, 0, nilS, []⟩, ⟨0, 0, nilS, []⟩]
theorem opsA_el {L : List Asrt} {a b : Value} (ha : Bs L a [5#8, 6#8]) (hb : Bs L b [5#8]) : ∀ o ∈ opsA a b, Bs L o.text_V o.text_ ∧ o.text_.length ≤ 140737488351232 := by
  intro o ho
  simp only [opsA, List.mem_cons, List.not_mem_nil, or_false] at ho
  rcases ho with rfl|rfl|rfl|rfl|rfl|rfl|rfl|rfl|rfl|rfl <;> first|exact ⟨Bs.nil, Nat.zero_le _⟩|exact ⟨ha, by show (2 : Nat) ≤ _; omega⟩|exact ⟨hb, by show (1 : Nat) ≤ _; omega⟩
theorem opsB_el {L : List Asrt} {a : Value} (ha : Bs L a [5#8, 6#8]) : ∀ o ∈ opsB a, Bs L o.text_V o.text_ ∧ o.text_.length ≤ 140737488351232 := by
  intro o ho
  simp only [opsB, List.mem_cons, List.not_mem_nil, or_false] at ho
  rcases ho with rfl|rfl|rfl|rfl|rfl|rfl|rfl|rfl|rfl|rfl|rfl <;> first|exact ⟨Bs.nil, Nat.zero_le _⟩|exact ⟨ha, by show (2 : Nat) ≤ _; omega⟩
theorem opsC_el {L : List Asrt} : ∀ o ∈ opsC, Bs L o.text_V o.text_ ∧ o.text_.length ≤ 140737488351232 := by
  intro o ho
  simp only [opsC, List.mem_cons, List.not_mem_nil, or_false] at ho
  rcases ho with rfl|rfl <;> exact ⟨Bs.nil, Nat.zero_le _⟩
theorem opsD_el {L : List Asrt} {a : Value} (ha : Bs L a (List.replicate 4096 0#8)) : ∀ o ∈ opsD a, Bs L o.text_V o.text_ ∧ o.text_.length ≤ 140737488351232 := by
  intro o ho
  simp only [opsD, List.mem_cons, List.not_mem_nil, or_false] at ho
  rcases ho with rfl|rfl|rfl <;> first|exact ⟨Bs.nil, Nat.zero_le _⟩|exact ⟨ha, by show (List.replicate 4096 0#8).length ≤ _; rw [List.length_replicate]; omega⟩
abbrev lifeA (z w : Nat) (g : Nat) (a b : Value) : PLifeV := ⟨4, (z : Int), (w : Int), key0, 9#64, nilS, [], .slice (some ⟨g, 0, none⟩) 10 10, opsA a b⟩
abbrev flt1 (k m : Nat) : FaultV := ⟨(k : Int), (m : Int), 2, 20, 4#8, 1⟩
abbrev lifeB (k m : Nat) (f g : Nat) (a : Value) : PLifeV := ⟨3, 30, 2, key0, 18446744073709551615#64, .slice (some ⟨f, 0, none⟩) 1 1, [flt1 k m], .slice (some ⟨g, 0, none⟩) 11 11, opsB a⟩
abbrev lifeC (g : Nat) : PLifeV := ⟨0, 4124, 2, key0, 0#64, nilS, [], .slice (some ⟨g, 0, none⟩) 2 2, opsC⟩
abbrev lifeD (g : Nat) (a : Value) : PLifeV := ⟨1, 4124, 16, key0, 0#64, nilS, [], .slice (some ⟨g, 0, none⟩) 3 3, opsD a⟩
theorem known_A {t g z w : Nat} {a b : Value} (L : List Asrt) (ha : Bs [cl g ((opsA a b).flatMap OpV.cells).toArray 75, cl t #[u8b 5#8, u8b 6#8] 5] a [5#8, 6#8]) (hb : Bs [cl g ((opsA a b).flatMap OpV.cells).toArray 75, cl t #[u8b 5#8, u8b 6#8] 5] b [5#8]) :
    Con Tryz.prog 8 [.agg (pcs (lifeA z w g a b))] [cl g ((opsA a b).flatMap OpV.cells).toArray 75, cl t #[u8b 5#8, u8b 6#8] 5] (fun r M => r = .bool true ∧ [cl g ((opsA a b).flatMap OpV.cells).toArray 75, cl t #[u8b 5#8, u8b 6#8] 5] = M) :=
  pplays_x (x := lifeA z w g a b) ⟨rfl, faultIn_nil, opsIn_cl .here rfl (by decide) (opsA_el ha hb)⟩ (by show (10 : Nat) ≤ _; omega)
theorem known_B {t f g k m : Nat} {a : Value} (ha : Bs [cl g ((opsB a).flatMap OpV.cells).toArray 75, cl f (flt1 k m).cells.toArray 70, cl t #[u8b 5#8, u8b 6#8] 5] a [5#8, 6#8]) :
    Con Tryz.prog 8 [.agg (pcs (lifeB k m f g a))] [cl g ((opsB a).flatMap OpV.cells).toArray 75, cl f (flt1 k m).cells.toArray 70, cl t #[u8b 5#8, u8b 6#8] 5] (fun r M => r = .bool true ∧ [cl g ((opsB a).flatMap OpV.cells).toArray 75, cl f (flt1 k m).cells.toArray 70, cl t #[u8b 5#8, u8b 6#8] 5] = M) :=
  pplays_x (x := lifeB k m f g a) ⟨rfl, faultIn_cl (.there .here) ⟨by show (-9223372036854775808 : Int) ≤ 1; decide, by show (1 : Int) ≤ 9223372036854775807; decide⟩, opsIn_cl .here rfl (by decide) (opsB_el ha)⟩ (by show (11 : Nat) ≤ _; omega)
theorem known_C {g : Nat} : Con Tryz.prog 8 [.agg (pcs (lifeC g))] [cl g (opsC.flatMap OpV.cells).toArray 75] (fun r M => r = .bool true ∧ [cl g (opsC.flatMap OpV.cells).toArray 75] = M) :=
  pplays_x (x := lifeC g) ⟨rfl, faultIn_nil, opsIn_cl .here rfl (by decide) opsC_el⟩ (by show (2 : Nat) ≤ _; omega)
theorem known_D {g t : Nat} {a : Value} (ha : Bs [cl g ((opsD a).flatMap OpV.cells).toArray 75, cl t ((List.replicate 4096 0#8).map u8b).toArray 5] a (List.replicate 4096 0#8)) : Con Tryz.prog 8 [.agg (pcs (lifeD g a))] [cl g ((opsD a).flatMap OpV.cells).toArray 75, cl t ((List.replicate 4096 0#8).map u8b).toArray 5] (fun r M => r = .bool true ∧ [cl g ((opsD a).flatMap OpV.cells).toArray 75, cl t ((List.replicate 4096 0#8).map u8b).toArray 5] = M) :=
  pplays_x (x := lifeD g a) ⟨rfl, faultIn_nil, opsIn_cl .here rfl (by decide) (opsD_el ha)⟩ (by show (3 : Nat) ≤ _; omega)
theorem known_x : Con Tryz.prog 9 [] [] (fun r M => r = .bool true ∧ M = []) := by
  refine fn_x Tryz.func9 rfl rfl rfl Tryz.mixed (by kernel_rfl) ?_
  intro w0
  refine Y4 ?_
  refine Zh7 (cs := #[u8b 5#8, u8b 6#8]) (by omega) (by omega) (by kernel_rfl) ?_; intro b9
  refine V5 ?_
  refine Zgo [(0, 0), (2, 3), (10, 37)] (by kernel_rfl) (fun z : Nat => 27 ≤ z ∧ z ≤ 31) (fun _ => [cl b9 #[u8b 5#8, u8b 6#8] 5]) (fun z => [(2, nvv z)]) (fun z => 31 - z) 27 ⟨by omega, by omega⟩ qI ⟨rfl, trivial⟩ ?_
  rintro z u ⟨hz1, hz2⟩
  refine Y2 ?_
  refine Zhg (Zmg (a := z) (b := 30) rfl rfl) ?_
  refine V1 ?_
  refine Zgg rfl (fun hB => ?_) (fun hB => ?_)
  · refine V3 ?_
    refine Zgo [(0, 0), (3, 3), (14, 37)] (by kernel_rfl) (fun w : Nat => w ≤ 18) (fun _ => [cl b9 #[u8b 5#8, u8b 6#8] 5]) (fun w => [(3, nvv w)]) (fun w => 18 - w) 0 (by omega) qI ⟨rfl, trivial⟩ ?_
    intro w u2 hw
    refine Y2 ?_
    refine Zhg (Zmg (a := w) (b := 17) rfl rfl) ?_
    refine V1 ?_
    refine Zgg rfl (fun hB2 => ?_) (fun hB2 => ?_)
    · refine Ct.o ?_
      have hcall := fun g => known_A (t := b9) (g := g) (z := z) (w := w) (a := .slice (some ⟨b9, 0, none⟩) 2 2) (b := .slice (some ⟨b9, 0, none⟩) 1 2) [] (bs_full (l := [5#8, 6#8]) (n := 2) (.there .here) rfl (by omega)) (bs_front (l := [5#8]) (t := [6#8]) (n := 1) (c := 2) (.there .here) rfl (by omega) (by omega))
      refine Y4 ?_
      refine Zhg (Zdm (cs := ((⟨1, 1, .slice (some ⟨b9, 0, none⟩) 2 2, []⟩ : OpV).cells).toArray) rfl) ?_
      refine Zhg (Zdm (cs := ((⟨0, 2, nilS, []⟩ : OpV).cells).toArray) rfl) ?_
      refine Zhg (Zdm (cs := ((⟨0, 1, nilS, []⟩ : OpV).cells).toArray) rfl) ?_
      refine Y1 ?_
      refine Zhg (Zdm (cs := ((⟨1, 3, .slice (some ⟨b9, 0, none⟩) 2 2, []⟩ : OpV).cells).toArray) rfl) ?_
      refine Zhg (Zdm (cs := ((⟨0, 0, nilS, []⟩ : OpV).cells).toArray) rfl) ?_
      refine Zhg (Zdm (cs := ((⟨0, 1, nilS, []⟩ : OpV).cells).toArray) rfl) ?_
      refine Zhg (Zdm (cs := ((⟨2, 0, nilS, []⟩ : OpV).cells).toArray) rfl) ?_
      refine Zhg (Zdm (cs := ((⟨0, 4, nilS, []⟩ : OpV).cells).toArray) rfl) ?_
      refine Zhg (Zdm (cs := ((⟨1, -1, nilS, []⟩ : OpV).cells).toArray) rfl) ?_
      refine Y1 ?_
      refine Zhg (Zm0 (h := 1) rfl rfl) ?_
      refine Zhg (Zdm (cs := ((⟨1, 0, .slice (some ⟨b9, 0, none⟩) 1 2, []⟩ : OpV).cells).toArray) rfl) ?_
      refine Zh7 (cs := ((opsA (.slice (some ⟨b9, 0, none⟩) 2 2) (.slice (some ⟨b9, 0, none⟩) 1 2)).flatMap OpV.cells).toArray) (by omega) (by omega) (by kernel_rfl) ?_; intro b34
      refine Zhg (Zdm (cs := pcs (lifeA z w b34 (.slice (some ⟨b9, 0, none⟩) 2 2) (.slice (some ⟨b9, 0, none⟩) 1 2))) (by kernel_rfl)) ?_
      refine Zh8 rfl (by kernel_rfl) (hcall b34) rfl qT ?_
      rintro _ _ ⟨rfl, rfl⟩
      refine Y1 ?_
      refine Zhg (Zb0 rfl) ?_
      refine Zhn 37 rfl (rfl) ?_
      refine V7 ?_
      exact Zgl (w + 1) qO (by omega) qI ⟨rfl, trivial⟩
    · refine V5 ?_
      exact Zgl (z + 1) qO ⟨by omega, by omega⟩ qI ⟨rfl, trivial⟩
  · refine V3 ?_
    refine Zgo [(0, 0), (4, 5), (38, 68)] (by kernel_rfl) (fun k : Nat => k ≤ 8) (fun _ => [cl b9 #[u8b 5#8, u8b 6#8] 5]) (fun k => [(4, nvv k)]) (fun k => 8 - k) 0 (by omega) qI ⟨rfl, trivial⟩ ?_
    intro k u3 hk8
    refine Y2 ?_
    refine Zhg (Zbn (a := (k : Int)) (b := 8) rfl rfl) ?_
    refine V1 ?_
    refine Zgg rfl (fun hB3 => ?_) (fun hB3 => ?_)
    · refine V3 ?_
      refine Zgo [(0, 0), (5, 5), (42, 68)] (by kernel_rfl) (fun m : Nat => m ≤ 5) (fun _ => [cl b9 #[u8b 5#8, u8b 6#8] 5]) (fun m => [(5, nvv m)]) (fun m => 5 - m) 0 (by omega) qI ⟨rfl, trivial⟩ ?_
      intro m u4 hm5
      refine Y2 ?_
      refine Zhg (Zmg (a := m) (b := 4) rfl rfl) ?_
      refine V1 ?_
      refine Zgg rfl (fun hB4 => ?_) (fun hB4 => ?_)
      · refine Ct.o ?_
        have hcall := fun f g => known_B (t := b9) (f := f) (g := g) (k := k) (m := m) (a := .slice (some ⟨b9, 0, none⟩) 2 2) (bs_full (l := [5#8, 6#8]) (n := 2) (.there (.there .here)) rfl (by omega))
        refine Y3 ?_
        refine Zhg (Zdm (cs := (flt1 k m).cells.toArray) rfl) ?_
        refine Zh7 (cs := (flt1 k m).cells.toArray) (by omega) (by omega) (by exact fill_one rfl rfl) ?_; intro b49
        refine Y1 ?_
        refine Zhg (Zdm (cs := ((⟨1, 0, .slice (some ⟨b9, 0, none⟩) 2 2, []⟩ : OpV).cells).toArray) rfl) ?_
        refine Y1 ?_
        refine Zhg (Zdm (cs := ((⟨1, 1, .slice (some ⟨b9, 0, none⟩) 2 2, []⟩ : OpV).cells).toArray) rfl) ?_
        refine Y1 ?_
        refine Zhg (Zdm (cs := ((⟨1, 2, .slice (some ⟨b9, 0, none⟩) 2 2, []⟩ : OpV).cells).toArray) rfl) ?_
        refine Zhg (Zdm (cs := ((⟨2, 0, nilS, []⟩ : OpV).cells).toArray) rfl) ?_
        refine Zhg (Zdm (cs := ((⟨0, 0, nilS, []⟩ : OpV).cells).toArray) rfl) ?_
        refine Y1 ?_
        refine Zhg (Zdm (cs := ((⟨1, 0, .slice (some ⟨b9, 0, none⟩) 2 2, []⟩ : OpV).cells).toArray) rfl) ?_
        refine Zhg (Zdm (cs := ((⟨0, 1, nilS, []⟩ : OpV).cells).toArray) rfl) ?_
        refine Zhg (Zdm (cs := ((⟨0, 2, nilS, []⟩ : OpV).cells).toArray) rfl) ?_
        refine Zhg (Zdm (cs := ((⟨0, 0, nilS, []⟩ : OpV).cells).toArray) rfl) ?_
        refine Zhg (Zdm (cs := ((⟨2, 0, nilS, []⟩ : OpV).cells).toArray) rfl) ?_
        refine Zhg (Zdm (cs := ((⟨0, 9, nilS, []⟩ : OpV).cells).toArray) rfl) ?_
        refine Zh7 (cs := ((opsB (.slice (some ⟨b9, 0, none⟩) 2 2)).flatMap OpV.cells).toArray) (by omega) (by omega) (by kernel_rfl) ?_; intro b65
        refine Zhg (Zdm (cs := pcs (lifeB k m b49 b65 (.slice (some ⟨b9, 0, none⟩) 2 2))) (by kernel_rfl)) ?_
        refine Zh8 rfl (by kernel_rfl) (hcall b49 b65) rfl qT ?_
        rintro _ _ ⟨rfl, rfl⟩
        refine Y1 ?_
        refine Zhg (Zb0 rfl) ?_
        refine Zhn 68 rfl (rfl) ?_
        refine V7 ?_
        exact Zgl (m + 1) qO (by omega) qI ⟨rfl, trivial⟩
      · refine V5 ?_
        exact Zgl (k + 1) qO (by omega) qI ⟨rfl, trivial⟩
    · refine Ct.o ?_
      have hcD := fun g t => known_D (g := g) (t := t) (a := .slice (some ⟨t, 0, none⟩) 4096 4096) (bs_full (l := List.replicate 4096 0#8) (n := 4096) (.there .here) (List.length_replicate ..) (by omega))
      refine Y1 ?_
      refine Zhg (Zdm (cs := ((⟨0, 0, nilS, []⟩ : OpV).cells).toArray) rfl) ?_
      refine Zhg (Zdm (cs := ((⟨2, 0, nilS, []⟩ : OpV).cells).toArray) rfl) ?_
      refine Zh7 (cs := (opsC.flatMap OpV.cells).toArray) (by omega) (by omega) (by kernel_rfl) ?_; intro b71
      refine Zhg (Zdm (cs := pcs (lifeC b71)) (by kernel_rfl)) ?_
      refine Zh8 rfl (by kernel_rfl) (known_C (g := b71)) rfl qT ?_
      rintro _ _ ⟨rfl, rfl⟩
      refine Y1 ?_
      refine Zhg (Zb0 rfl) ?_
      refine Zhn 74 rfl (rfl) ?_
      refine Y1 ?_
      first|refine Y0 ?_|(refine Zhh rfl ?_; (refine Zm3 (f := u8b) (a := 0#8) (len := 4096) (cap := 4096) rfl rfl rfl qS qS qS ?_; intro b76))
      first|refine Y0 ?_|(refine Zhh rfl ?_; (refine Zhg (Zdm (cs := ((⟨1, 0, .slice (some ⟨b76, 0, none⟩) 4096 4096, []⟩ : OpV).cells).toArray) rfl) ?_))
      first|refine Y0 ?_|(refine Zhh rfl ?_; (refine Zhg (Zdm (cs := ((⟨2, 0, nilS, []⟩ : OpV).cells).toArray) rfl) ?_))
      first|refine Y0 ?_|(refine Zhh rfl ?_; (refine Zhg (Zdm (cs := ((⟨0, 0, nilS, []⟩ : OpV).cells).toArray) rfl) ?_))
      refine Zhh rfl ?_; refine Zh7 (cs := ((opsD (.slice (some ⟨b76, 0, none⟩) 4096 4096)).flatMap OpV.cells).toArray) (by omega) (by omega) (by kernel_rfl) ?_; intro b80
      first|refine Y0 ?_|(refine Zhh rfl ?_; (refine Zhg (Zdm (cs := pcs (lifeD b80 (.slice (some ⟨b76, 0, none⟩) 4096 4096))) (by kernel_rfl)) ?_))
      first|refine Y0 ?_|(refine Zhh rfl ?_; (refine Zh8 rfl (by kernel_rfl) (hcD b80 b76) rfl qT ?_); (rintro _ _ ⟨rfl, rfl⟩); (refine Zg2 qA ?_))
      first|refine Y0 ?_|(refine Zhh rfl ?_; (refine Zhg (Zb0 rfl) ?_))
      refine Zhn 83 rfl (rfl) ?_
      refine Y8 ?_
      refine Zh8 rfl (by kernel_rfl) (load_nil 0) rfl qT ?_
      rintro _ _ ⟨rfl, rfl⟩
      refine Y10 ?_
      refine Zhm 91 rfl (decide_eq_true (rfl)) ?_
      refine Y2 ?_
      first|refine Y0 ?_|(refine Zhh rfl ?_; (refine Zh8 rfl (by kernel_rfl) (save_nil 0 (.slice none 0 0)) rfl qT ?_); (rintro _ _ ⟨rfl, rfl⟩); (refine Zg2 qA ?_))
      refine Y1 ?_
      refine Zhm 95 rfl (decide_eq_true (rfl)) ?_
      refine Y3 ?_
      first|refine Y0 ?_|(refine Zhh rfl ?_; (refine Zh8 rfl (by kernel_rfl) (flush_nil) rfl qT ?_); (rintro _ _ ⟨rfl, rfl⟩); (refine Zg2 qA ?_))
      refine Y1 ?_
      refine Zhm 100 rfl (decide_eq_true (rfl)) ?_
      refine Y3 ?_
      first|refine Y0 ?_|(refine Zhh rfl ?_; (refine Zh8 rfl (by kernel_rfl) (pages_nil) rfl qT ?_); (rintro _ _ ⟨rfl, rfl⟩); (refine Zg2 qA ?_))
      refine Y1 ?_
      refine Zhm 105 rfl (decide_eq_true (rfl)) ?_
      refine Y3 ?_
      first|refine Y0 ?_|(refine Zhh rfl ?_; (refine Zh8 rfl (by kernel_rfl) (text_nil) rfl qT ?_); (rintro _ _ ⟨rfl, rfl⟩); (refine Zg2 qA ?_))
      refine Y1 ?_
      refine Zhm 110 rfl (decide_eq_true (rfl)) ?_
      refine Y3 ?_
      first|refine Y0 ?_|(refine Zhh rfl ?_; (refine Zh8 rfl (by kernel_rfl) (held_nil) rfl qT ?_); (rintro _ _ ⟨rfl, rfl⟩); (refine Zg2 qA ?_))
      refine Y2 ?_
      refine Zhm 116 rfl (decide_eq_true (rfl)) ?_
      refine Y3 ?_
      first|refine Y0 ?_|(refine Zhh rfl ?_; (refine Zh8 rfl (by kernel_rfl) (most_nil) rfl qT ?_); (rintro _ _ ⟨rfl, rfl⟩); (refine Zg2 qA ?_))
      refine Y1 ?_
      refine Zhm 121 rfl (decide_eq_true (rfl)) ?_
      refine Y3 ?_
      first|refine Y0 ?_|(refine Zhh rfl ?_; (refine Zh8 rfl (by kernel_rfl) (writes_nil) rfl qT ?_); (rintro _ _ ⟨rfl, rfl⟩); (refine Zg2 qA ?_))
      first|refine Y0 ?_|(refine Zhh rfl ?_; (refine Zhg (Zky (x := 0#32) (y := 0#32) rfl rfl) ?_))
      refine Zhm 126 rfl (decide_eq_true (rfl)) ?_
      refine Y3 ?_
      first|refine Y0 ?_|(refine Zhh rfl ?_; (refine Zh8 rfl (by kernel_rfl) (err_nil) rfl qT ?_); (rintro _ _ ⟨rfl, rfl⟩); (refine Zg2 qA ?_))
      refine Y1 ?_
      refine Zhm 131 rfl (decide_eq_true (rfl)) ?_
      refine Y2 ?_
      first|refine Y0 ?_|(refine Zhh rfl ?_; (refine Zh8 rfl (by kernel_rfl) (plWorks_x) rfl qT ?_); (rintro _ _ ⟨rfl, rfl⟩); (refine Zg2 qA ?_))
      refine V3 ?_
      refine rx1 (Zha rfl (Zg7)) ?_
      exact ⟨_, ⟨rfl, rfl⟩, qI⟩
theorem known13_w (W : World) : Con Tryz.prog 9 [] [old W] (fun r M => r = .bool true ∧ [old W] = M) := (Con.frame (L := [old W]) known_x).mono fun r M ⟨M', ⟨h1, h2⟩, h3⟩ => by
  subst h2
  exact ⟨_, Imp.refl _, h1, by rw [← h3]; rfl⟩
end Go.Sl
