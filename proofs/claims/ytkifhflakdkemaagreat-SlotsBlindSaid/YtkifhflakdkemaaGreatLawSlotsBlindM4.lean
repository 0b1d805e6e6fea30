/- Parts of the proof. -/
import Derived.Test.YtkifhflakdkemaaGreatLawSlotsBlindM0
import Derived.Test.YtkifhflakdkemaaGreatLawSlotsBlindM1
import Derived.Test.YtkifhflakdkemaaGreatLawSlotsBlindM2
import Derived.Test.YtkifhflakdkemaaGreatLawSlotsBlindM3
import Derived.Test.YtkifhflakdkemaaGreatRows
set_option maxHeartbeats 4000000
set_option maxRecDepth 10000
set_option linter.unusedVariables false
set_option linter.unusedSimpArgs false
namespace Go.Sl
open Go Go.Proofs
attribute [local irreducible] pt old pur ex all den denOps denS xOps xC cX CX xthen xblk xcut xloop xng retX resX Calls PV Rd Con
attribute [local irreducible] hostA pgA PagerS.loadP PagerS.saveP wds withinN SlotS.getS SlotS.setS SlotS.pairL SlotS.pairE ocells accs
open SlotS (SL Acc Fit Two)
open PagerS (PS Over)
structure BL (x : WorldV) (i : Nat) (s : SL) (p t : PS) (h g : HostS.HS) : Prop where
  two : Two p t h g
  fit : Fit s p
  n : s.n = nN x
  size : s.size = nSz x
  log : s.log.length ≤ i
  aok : ∀ a ∈ s.log, AOk a
  cost : h.ops ≤ 2 * p.writes + PagerS.chg p + PagerS.dE p + i
section
variable {x : WorldV} {i : Nat} {s : SL} {p t : PS} {h g : HostS.HS}
theorem BL.fit2 (k : BL x i s p t h g) : Fit s t := k.fit.same k.two.s.text.symm k.two.s.pages.symm
theorem BL.ok1 (k : BL x i s p t h g) : PagerS.Ok p := k.two.ok
theorem BL.ok2 (k : BL x i s p t h g) : PagerS.Ok t := by obtain ⟨b, q⟩ := k.two.q2; exact q.ok
theorem BL.over1 (k : BL x i s p t h g) : Over p h := by obtain ⟨b, q⟩ := k.two.q1; exact q.over
theorem BL.over2 (k : BL x i s p t h g) : Over t g := by obtain ⟨b, q⟩ := k.two.q2; exact q.over
theorem BL.ops (k : BL x i s p t h g) : h.ops ≤ 8589934614 + i := by
  have := k.cost
  have h1 := k.two.ok.writes
  have h2 := k.two.ok.many
  have h3 := k.two.ok.w1
  have h4 : PagerS.chg p ≤ p.held.length := List.countP_le_length
  have h5 : PagerS.dE p ≤ 8 := by unfold PagerS.dE; split <;> omega
  omega
theorem aok_snoc {l : List Acc} (h : ∀ a ∈ l, AOk a) {x : Acc} (hx : AOk x) : ∀ a ∈ l ++ [x], AOk a := by
  intro a ha
  rcases List.mem_append.1 ha with ha|ha
  · exact h a ha
  · rw [List.mem_singleton.1 ha]; exact hx
theorem BL.to (k : BL x i s p t h g) {p2 t2 : PS} {h2 g2 : HostS.HS} (two : Two p2 t2 h2 g2) (ht : p2.text = p.text) (hp : p2.pages = p.pages) (co : PagerS.Cost 1 p h p2 h2) {c : Acc} (hc : AOk c) : BL x (i + 1) (SlotS.touch s c.1 c.2.1 c.2.2) p2 t2 h2 g2 := by
  have h4 := k.log; have h5 := k.cost
  unfold PagerS.Cost at co
  refine ⟨two, (k.fit.touch _ _ _).same ht hp, k.n, k.size, ?_, aok_snoc k.aok hc, by omega⟩
  show (s.log ++ [_]).length ≤ _
  simp; omega
theorem BL.mono (k : BL x i s p t h g) {j : Nat} (hij : i ≤ j) : BL x j s p t h g := ⟨k.two, k.fit, k.n, k.size, Nat.le_trans k.log hij, k.aok, by have := k.cost; omega⟩
end
abbrev BT := Nat × SL × (PS × PS) × HostS.HS × HostS.HS
theorem two_start {x : WorldV} (hk : x.key_.length = 32) {key : List Byte} (hk2 : key.length = 32) : Two (psW x x.key_) (psW x key) (hsW x) (hsW x) :=
  ⟨⟨_, (quietW x hk).sound⟩, ⟨_, (quietW x hk2).sound⟩, ⟨rfl, rfl, rfl, rfl, rfl, rfl, rfl, rfl, rfl⟩, ⟨rfl, rfl, rfl, rfl, rfl, fun _ => ⟨rfl, rfl⟩⟩, PagerS.hi_fresh rfl (quietW x hk).sound.over⟩
section
variable {L : List Asrt} {x : WorldV}
theorem blind_x (hi : WIn L x) {key : List Byte} (hk2 : key.length = 32) {vo : Value} {ot : List (Value × List Byte)} (hot : Rs L vo ot) (hup : x.script_.length ≤ 2513169434843) : Con Tryz.prog 6 [.agg (wds x), .agg (key.map u8b).toArray, vo] L (fun r M => r = .bool true ∧ L = M) := by
  obtain ⟨fa, fn', fc, hfv⟩ := hi.flt
  refine Con.get (fun w0 w F H => hi.ops.rd.len H) ?_
  rintro ⟨sa, sc, hsv⟩
  refine Con.get (fun w0 w F H => hot.sh _ _ _ H) ?_
  rintro ⟨oa, oc, rfl, hoc1, hoc2⟩
  have hk := hi.key
  have hlen := wds_len hk
  have hone := wds_one hfv hsv
  have hscr := wds_script hk
  rw [hsv] at hscr
  have hops := hi.ops
  rw [hsv] at hops
  have hnm := nums x
  have w1 := hnm.pg; have w2 := hnm.tx; have w3 := hnm.sz; have w5 := hnm.n
  have hd2 : nTx x / nSz x ≤ 400 := Nat.le_trans (Nat.div_le_self _ _) w2.2
  have hm24 : nPg x * (nTx x / nSz x) ≤ 24 * 400 := Nat.mul_le_mul w1.2 hd2
  have hq := fun (L : List Asrt) => quiet_x (L := L) hk hk hi.big
  have hq2 := fun (L : List Asrt) => quiet_x (L := L) hk hk2 hi.big
  have hn0 : (sl0 x).n = nN x := rfl
  have hz0 : (sl0 x).size = nSz x := rfl
  have hln := fun q pp => slen_x (q := q) (pp := pp) (s := sl0 x)
  rw [hn0] at hln
  have hbl0 : BL x 0 (sl0 x) (psW x x.key_) (psW x key) (hsW x) (hsW x) := ⟨two_start hk hk2, fitW x x.key_, rfl, rfl, Nat.le_refl _, fun a ha => (by cases ha), Nat.zero_le _⟩
  refine fn_y Tryz.func6 Tryz.mixed ?_
  intro w0
  refine Y1 ?_
  refine Zh5 rfl ?_; intro b3
  refine Zh5 rfl ?_; intro b4
  refine Y5 ?_
  refine Zhq (n := 32) rfl qH qZ (wds_key hk) ?_
  refine Zor (c := hq []) (k := ?_)
  rintro _ _ ⟨q, pp, ph, rfl, rfl⟩
  refine Y14 ?_
  refine Zor (c := hq2 []) (k := ?_)
  rintro _ _ ⟨q', pp', ph', rfl, rfl⟩
  refine Y13 ?_
  refine Zhg (Zb0 rfl) ?_
  refine Zhn 39 rfl (rfl) ?_
  refine Y2 ?_
  first|refine Y0 ?_|(refine Zhh rfl ?_; (refine Zhg (Zb0 rfl) ?_))
  refine Zhn 42 rfl (rfl) ?_
  refine Y2 ?_
  first|refine Y0 ?_|(refine Zhh rfl ?_; (refine Zor (c := slWorks_x) (k := ?_)); (rintro _ _ ⟨rfl, rfl⟩); (refine Zg2 qA ?_))
  first|refine Y0 ?_|(refine Zhh rfl ?_; (refine Zhg (Zb0 rfl) ?_))
  refine Zhn 46 rfl (rfl) ?_
  refine Y5 ?_
  refine Zor (c := hln q pp) (k := ?_)
  rintro _ _ ⟨rfl, rfl⟩
  refine V6 ?_
  generalize sl0 x = s0 at *
  generalize psW x x.key_ = p0 at *
  generalize psW x key = t0 at *
  generalize hsW x = h0 at *
  refine Zgo [(16, 20), (50, 115)] (by kernel_rfl) (fun z : BT => z.1 ≤ x.script_.length ∧ BL x z.1 z.2.1 z.2.2.1.1 z.2.2.1.2 z.2.2.2.1 z.2.2.2.2)
    (fun z => slA q pp z.2.1 :: pgA pp ph z.2.2.1.1 :: hostA ph z.2.2.2.1 :: slA q' pp' z.2.1 :: pgA pp' ph' z.2.2.1.2 :: hostA ph' z.2.2.2.2 :: cl b3 (wds x) 62 :: cl b4 (key.map u8b).toArray 42 :: L) (fun z => [(16, nvv z.1)]) (fun z => x.script_.length - z.1) (0, s0, (p0, t0), h0, h0) ⟨Nat.zero_le _, hbl0⟩ qI ⟨rfl, trivial⟩ ?_
  clear hbl0 hn0 hz0 hln hq hq2
  rintro ⟨j, s, ⟨p, t⟩, h, g⟩ u1 ⟨hj, hbl⟩
  dsimp only at hj hbl ⊢
  have hn := hbl.n
  have hz := hbl.size
  have hop := hbl.ops
  have hop2 : g.ops = h.ops := hbl.two.hr.ops.symm
  have hlg := hbl.log
  have hok := hbl.ok1
  have hok2 := hbl.ok2
  have hov := hbl.over1
  have hov2 := hbl.over2
  have hfit := hbl.fit
  have hfit2 := hbl.fit2
  by_cases hc : j < x.script_.length ∧ 0 < nN x
  · obtain ⟨hB, hn1⟩ := hc
    refine Zgt (fun F w H => (hops.rd.imp (Imp.arr (M := _) qV)).someAt (by omega) H) ?_
    rintro ⟨bb, o, rfl⟩
    obtain ⟨hel, hell⟩ := hops.el _ (List.getElem_mem hB)
    refine Zgt (fun F w H => (hel.imp (Imp.arr (M := _) qV)).sh _ _ _ H) ?_
    rintro ⟨ta, tc, htv, htc, htcm⟩
    have hone2 : x.script_[j].cells.toArray.toList.all oneC = true := by simp [SOpV.cells, oneC, htv]
    have x1 := within_x x.script_[j].i_ (nN x) (by omega) (by omega)
    have x2 := within_x x.script_[j].j_ (nN x) (by omega) (by omega)
    have l1 := (within_is x.script_[j].i_ (n := nN x) (by omega)).1
    have l2 := (within_is x.script_[j].j_ (n := nN x) (by omega)).1
    have hsB : (x.script_[j].cells.toArray)[4]? = some x.script_[j].b_V := rfl
    generalize withinN x.script_[j].i_ (nN x) = m at *
    generalize withinN x.script_[j].j_ (nN x) = k at *
    have hms : m < s.n := by omega
    have hks : k < s.n := by omega
    refine Y3 ?_
    refine Zhp rfl qH (hscr) ?_
    refine Y2 ?_
    refine Zos 54 rfl (hB) ?_
    refine Y3 ?_
    refine Zos 57 rfl (hn1) ?_
    refine Y5 ?_
    refine Zhp rfl qH (hscr) ?_
    refine Y2 ?_
    refine Zfg rfl ((hops.rd.imp qI).agN sop_len (by omega) hB) ?_
    refine Zhz (cs := #[.int .i64 0, .int .i64 0, .int .i64 0, .int .i64 0, .slice none 0 0]) rfl ?_; intro b17
    first|refine Zhy rfl rfl qR qZ (by first|rfl|exact oneM_u8 _|exact oneL_u8 _|exact acc_one _|exact acc_ones _|assumption|(simp [oneC]; done)) qZ ?_|refine Zhx rfl rfl qR qZ (by first|rfl|exact oneM_u8 _|exact oneL_u8 _|exact acc_one _|exact acc_ones _|assumption|(simp [oneC]; done)) qZ rfl ?_
    refine Y2 ?_
    refine Zhz (cs := #[.slice none 0 0]) rfl ?_; intro b18
    refine V1 ?_
    by_cases hjl : j < ot.length
    case' pos =>
      have hvb := hot.el _ (List.getElem_mem hjl)
      refine Zgt (fun F w H => (hvb.imp (Imp.arr (M := _) qV)).sh _ _ _ H) ?_
      rintro ⟨va, vc, hvv, hvc, hvcm⟩
      refine Zgt (fun F w H => (hot.rd.imp (Imp.arr (M := _) qV)).someAt (by omega) H) ?_
      rintro ⟨ob, oo, rfl⟩
      refine Y5 ?_
      refine Zos 69 rfl (hjl) ?_
      refine V2 ?_
      rw [hvv] at hvb
      refine Y4 ?_
      refine Zff rfl ((hot.rd.imp qI).at hjl ((getM hjl).trans (congrArg some hvv))) ?_
      refine V2 ?_
      have hv1 : oneC (.slice va ot[j].2.length vc) = true := rfl
      clear hvv hvc
      generalize Value.slice va ot[j].2.length vc = v at *
      generalize ot[j].2 = y at *
    case' neg =>
      have hvb : Bs L (.slice none 0 0) [] := Bs.nil
      have hv1 : oneC (.slice none 0 0) = true := rfl
      refine Y5 ?_
      refine Zot 69 rfl (hjl) ?_
      refine V2 ?_
      generalize Value.slice none 0 0 = v at *
      generalize ([] : List Byte) = y at *
    all_goals
      refine Y4 ?_
      refine Zor (c := x1) (k := ?_)
      rintro _ _ ⟨rfl, rfl⟩
      refine Y7 ?_
      refine Zor (c := x2) (k := ?_)
      rintro _ _ ⟨rfl, rfl⟩
      refine V7 ?_
      by_cases k2 : x.script_[j].kind_ = 2
      · have hsl := sizedB_len x.script_[j].b_ (nSz x)
        have hsl2 := sizedB_len y (nSz x)
        have hsd := sized_x (L := L) hel (nSz x) (by omega)
        have hsd2 := sized_x (L := L) hvb (nSz x) (by omega)
        have hst := fun g2 => sset_x (q := q) (pp := pp) (ph := ph) (L := [blk g2 (sizedB x.script_[j].b_ (nSz x))]) hfit hok hov (by omega) (by omega) (m : Int) (bs_full (l := sizedB x.script_[j].b_ (nSz x)) (n := nSz x) .here hsl (by omega))
        have hst2 := fun g2 => sset_x (q := q') (pp := pp') (ph := ph') (L := [blk g2 (sizedB y (nSz x))]) hfit2 hok2 hov2 (by omega) (by omega) (m : Int) (bs_full (l := sizedB y (nSz x)) (n := nSz x) .here hsl2 (by omega))
        obtain ⟨e1, e2, e3, e4⟩ := hbl.two.set hfit hms (x := sizedB x.script_[j].b_ (nSz x)) (y := sizedB y (nSz x)) (by omega) (by omega)
        have hb2 := hbl.to e3 (SlotS.set_near s p h m _).text (SlotS.set_near s p h m _).spages e4 (c := (1, m, 0)) ⟨by dsimp only; omega, by dsimp only; omega, by dsimp only; omega⟩
        dsimp only at hb2
        rw [e1] at hst
        rw [e2] at hst2
        rw [htv] at hsd hsB
        generalize (SlotS.setS s p h m (sizedB x.script_[j].b_ (nSz x))).1 = r1 at *
        generalize (SlotS.setS s p h m (sizedB x.script_[j].b_ (nSz x))).2.2.1 = p1 at *
        generalize (SlotS.setS s p h m (sizedB x.script_[j].b_ (nSz x))).2.2.2 = h1 at *
        generalize (SlotS.setS s t g m (sizedB y (nSz x))).1 = r2 at *
        generalize (SlotS.setS s t g m (sizedB y (nSz x))).2.2.1 = t1 at *
        generalize (SlotS.setS s t g m (sizedB y (nSz x))).2.2.2 = g1 at *
        refine Y1 ?_
        refine Zhg (Zbr (a := x.script_[j].kind_) (b := 2) rfl rfl) ?_
        refine Zos 91 rfl (k2) ?_
        refine Y7 ?_
        refine Zhp rfl qH (hsB) ?_
        refine Y1 ?_
        refine Zor (c := hsd) (k := ?_)
        rintro _ _ ⟨c1, rfl, rfl⟩
        refine Y1 ?_
        refine Zor (c := hst c1) (k := ?_)
        rintro _ _ ⟨rfl, rfl⟩
        refine Y7 ?_
        refine Zor (c := hsd2) (k := ?_)
        rintro _ _ ⟨c2, rfl, rfl⟩
        refine Y1 ?_
        refine Zor (c := hst2 c2) (k := ?_)
        rintro _ _ ⟨rfl, rfl⟩
        refine V7 ?_
        exact Zgl (j + 1, SlotS.touch s 1 m 0, (p1, t1), h1, g1) qO ⟨by dsimp only; omega, hb2⟩ qI ⟨rfl, trivial⟩
      by_cases k3 : x.script_[j].kind_ = 3
      · by_cases hmk : m = k
        · have hno : ¬ SlotS.pairOk s m k := fun hh => hh.2.2 (by rw [hmk])
          have hpr := pair_bad (q := q) (pp := pp) (s := s) (F := 37) (fi := #[]) (ca := #[]) m k hno
          have hpr2 := fun b => pair_bad (q := q') (pp := pp') (s := s) (F := 38) (fi := #[]) (ca := #[.pointer (some ⟨b, 0, none⟩)]) m k hno
          refine Y1 ?_
          refine Zhg (Zbr (a := x.script_[j].kind_) (b := 2) rfl rfl) ?_
          refine Zot 91 rfl (k2) ?_
          refine Y4 ?_
          refine Zhg (Zbr (a := x.script_[j].kind_) (b := 3) rfl rfl) ?_
          refine Zos 106 rfl (k3) ?_
          refine Y7 ?_
          refine Zor (c := hpr) (k := ?_)
          rintro _ _ ⟨rfl, rfl⟩
          refine Y7 ?_
          refine Zor (c := hpr2 b18) (k := ?_)
          rintro _ _ ⟨rfl, rfl⟩
          refine V7 ?_
          exact Zgl (j + 1, s, (p, t), h, g) qO ⟨by dsimp only; omega, hbl.mono (Nat.le_succ j)⟩ qI ⟨rfl, trivial⟩
        · have hpl := hbl.two.pairL (s := s) m k
          by_cases h0 : (SlotS.pairL s p h m k).1.1 = 0
          case neg =>
            have hb2 := hbl.to hpl.two hpl.near.text hpl.near.spages (hpl.cost0 h0) (c := (2, m, k)) ⟨by dsimp only; omega, by dsimp only; omega, by dsimp only; omega⟩
            dsimp only at hb2
            have hpr := pair_err (q := q) (pp := pp) (ph := ph) (F := 37) (fi := #[]) (ca := #[]) hfit hok hov (by omega) (by omega) hms hks hmk h0
            have hpr2 := fun b : Nat => pair_err (q := q') (pp := pp') (ph := ph') (F := 38) (fi := #[]) (ca := #[.pointer (some ⟨b, 0, none⟩)]) hfit2 hok2 hov2 (by omega) (by omega) hms hks hmk (by rw [← hpl.eq]; exact h0)
            clear hpl
            generalize (SlotS.pairL s p h m k).2 = P1 at *
            generalize (SlotS.pairL s t g m k).2 = P2 at *
            obtain ⟨p1, h1⟩ := P1
            obtain ⟨t1, g1⟩ := P2
            dsimp only at hpr hpr2 hb2
            refine Y1 ?_
            refine Zhg (Zbr (a := x.script_[j].kind_) (b := 2) rfl rfl) ?_
            refine Zot 91 rfl (k2) ?_
            refine Y4 ?_
            refine Zhg (Zbr (a := x.script_[j].kind_) (b := 3) rfl rfl) ?_
            refine Zos 106 rfl (k3) ?_
            refine Y7 ?_
            refine Zor (c := hpr) (k := ?_)
            rintro _ _ ⟨rfl, rfl⟩
            refine Y7 ?_
            refine Zor (c := hpr2 b18) (k := ?_)
            rintro _ _ ⟨rfl, rfl⟩
            refine V7 ?_
            exact Zgl (j + 1, SlotS.touch s 2 m k, (p1, t1), h1, g1) qO ⟨by dsimp only; omega, hb2⟩ qI ⟨rfl, trivial⟩
          obtain ⟨l1', l2', l3', l4', l5'⟩ := hpl.lens h0
          have f1 : Fit s (SlotS.pairL s p h m k).2.1 := hfit.same hpl.near.text hpl.near.spages
          have u2 := hpl.near.text
          have hla := SlotS.part_len (t := (SlotS.pairL s p h m k).1.2.1) (a := SlotS.fr s m) (n := s.size) (by rw [l1']; exact hfit.from m)
          have hlb := SlotS.part_len (t := (SlotS.pairL s p h m k).1.2.2) (a := SlotS.fr s k) (n := s.size) (by rw [l2']; exact hfit.from k)
          have hlc := SlotS.part_len (t := (SlotS.pairL s t g m k).1.2.1) (a := SlotS.fr s m) (n := s.size) (by rw [l3']; exact hfit.from m)
          have hld := SlotS.part_len (t := (SlotS.pairL s t g m k).1.2.2) (a := SlotS.fr s k) (n := s.size) (by rw [l4']; exact hfit.from k)
          obtain ⟨hpe, hco1, hco2⟩ := hpl.two.pairE f1 hms (j := k) l5' (l1'.trans u2.symm) (l2'.trans u2.symm) (l3'.trans u2.symm) (l4'.trans u2.symm)
            (a := x1To (SlotS.part (SlotS.pairL s p h m k).1.2.1 (SlotS.fr s m) s.size) s.size) (b := SlotS.part (SlotS.pairL s p h m k).1.2.2 (SlotS.fr s k) s.size)
            (a' := SlotS.part (SlotS.pairL s t g m k).1.2.1 (SlotS.fr s m) s.size) (b' := ovTo y (SlotS.part (SlotS.pairL s t g m k).1.2.2 (SlotS.fr s k) s.size) (min s.size y.length))
            (by rw [x1To_len]; exact hla) hlb hlc (by rw [ovTo_len]; exact hld)
          have hne := hpl.near.trans (SlotS.pairE_near s (SlotS.pairL s p h m k).2.1 (SlotS.pairL s p h m k).2.2 m k (SlotS.pairL s p h m k).1.2.1 (SlotS.pairL s p h m k).1.2.2 (x1To (SlotS.part (SlotS.pairL s p h m k).1.2.1 (SlotS.fr s m) s.size) s.size) (SlotS.part (SlotS.pairL s p h m k).1.2.2 (SlotS.fr s k) s.size)) (Nat.le_refl _) (Nat.le_refl _)
          have hcost := hpl.cost
          have hb2 := hbl.to hpe hne.text hne.spages (by
            rcases hcost with c|⟨c, c'⟩
            · exact c.trans hco1
            · have := hco2 c'
              unfold PagerS.Cost at c ⊢
              omega) (c := (2, m, k)) ⟨by dsimp only; omega, by dsimp only; omega, by dsimp only; omega⟩
          dsimp only at hb2
          have hpr : Con Tryz.prog 32 [hp q, nvv m, nvv k, .func (.func 37) #[] #[]] [slA q pp s, pgA pp ph p, hostA ph h] (fun r M => (∃ e : Nat, r = nvv e) ∧ ∃ a b A B, M = slA q pp (SlotS.touch s 2 m k) :: pgA pp ph (SlotS.pairE s (SlotS.pairL s p h m k).2.1 (SlotS.pairL s p h m k).2.2 m k (SlotS.pairL s p h m k).1.2.1 (SlotS.pairL s p h m k).1.2.2 (x1To (SlotS.part (SlotS.pairL s p h m k).1.2.1 (SlotS.fr s m) s.size) s.size) (SlotS.part (SlotS.pairL s p h m k).1.2.2 (SlotS.fr s k) s.size)).2.1 :: hostA ph (SlotS.pairE s (SlotS.pairL s p h m k).2.1 (SlotS.pairL s p h m k).2.2 m k (SlotS.pairL s p h m k).1.2.1 (SlotS.pairL s p h m k).1.2.2 (x1To (SlotS.part (SlotS.pairL s p h m k).1.2.1 (SlotS.fr s m) s.size) s.size) (SlotS.part (SlotS.pairL s p h m k).1.2.2 (SlotS.fr s k) s.size)).2.2 :: [blk a A, blk b B]) := by
            refine (pair_ok (q := q) (pp := pp) (ph := ph) hfit hok hov (by omega) (by omega) hms hks hmk (blind1_con (L := []) (by omega)) h0).mono ?_
            rintro r M ⟨A, B, E, rfl, rfl, rfl, hr, a, b, Z, rfl, rfl⟩
            exact ⟨_, Imp.refl _, ⟨_, hr⟩, a, b, _, _, rfl⟩
          have hpr2 : ∀ c : Nat, Con Tryz.prog 32 [hp q', nvv m, nvv k, .func (.func 38) #[] #[.pointer (some ⟨c, 0, none⟩)]] (slA q' pp' s :: pgA pp' ph' t :: hostA ph' g :: cl c #[v] 66 :: L) (fun r M => (∃ e : Nat, r = nvv e) ∧ ∃ a b A B, M = slA q' pp' (SlotS.touch s 2 m k) :: pgA pp' ph' (SlotS.pairE s (SlotS.pairL s t g m k).2.1 (SlotS.pairL s t g m k).2.2 m k (SlotS.pairL s t g m k).1.2.1 (SlotS.pairL s t g m k).1.2.2 (SlotS.part (SlotS.pairL s t g m k).1.2.1 (SlotS.fr s m) s.size) (ovTo y (SlotS.part (SlotS.pairL s t g m k).1.2.2 (SlotS.fr s k) s.size) (min s.size y.length))).2.1 :: hostA ph' (SlotS.pairE s (SlotS.pairL s t g m k).2.1 (SlotS.pairL s t g m k).2.2 m k (SlotS.pairL s t g m k).1.2.1 (SlotS.pairL s t g m k).1.2.2 (SlotS.part (SlotS.pairL s t g m k).1.2.1 (SlotS.fr s m) s.size) (ovTo y (SlotS.part (SlotS.pairL s t g m k).1.2.2 (SlotS.fr s k) s.size) (min s.size y.length))).2.2 :: blk a A :: blk b B :: cl c #[v] 66 :: L) := fun c => by
            refine (pair_ok (q := q') (pp := pp') (ph := ph') hfit2 hok2 hov2 (by omega) (by omega) hms hks hmk (blind2_con (L := L) (g := c) hvb (by omega)) (by rw [← hpl.eq]; exact h0)).mono ?_
            rintro r M ⟨A, B, E, rfl, rfl, rfl, hr, a, b, Z, rfl, rfl⟩
            exact ⟨_, Imp.refl _, ⟨_, hr⟩, a, b, _, _, rfl⟩
          generalize (SlotS.pairE s (SlotS.pairL s p h m k).2.1 (SlotS.pairL s p h m k).2.2 m k (SlotS.pairL s p h m k).1.2.1 (SlotS.pairL s p h m k).1.2.2 (x1To (SlotS.part (SlotS.pairL s p h m k).1.2.1 (SlotS.fr s m) s.size) s.size) (SlotS.part (SlotS.pairL s p h m k).1.2.2 (SlotS.fr s k) s.size)).2 = P1 at *
          generalize (SlotS.pairE s (SlotS.pairL s t g m k).2.1 (SlotS.pairL s t g m k).2.2 m k (SlotS.pairL s t g m k).1.2.1 (SlotS.pairL s t g m k).1.2.2 (SlotS.part (SlotS.pairL s t g m k).1.2.1 (SlotS.fr s m) s.size) (ovTo y (SlotS.part (SlotS.pairL s t g m k).1.2.2 (SlotS.fr s k) s.size) (min s.size y.length))).2 = P2 at *
          clear hpl f1 u2 hla hlb hlc hld hpe hco1 hco2 hcost hne l1' l2' l3' l4' l5' h0
          obtain ⟨p1, h1⟩ := P1
          obtain ⟨t1, g1⟩ := P2
          dsimp only at hpr hpr2 hb2
          refine Y1 ?_
          refine Zhg (Zbr (a := x.script_[j].kind_) (b := 2) rfl rfl) ?_
          refine Zot 91 rfl (k2) ?_
          refine Y4 ?_
          refine Zhg (Zbr (a := x.script_[j].kind_) (b := 3) rfl rfl) ?_
          refine Zos 106 rfl (k3) ?_
          refine Y7 ?_
          refine Zor (c := hpr) (k := ?_)
          rintro _ _ ⟨⟨r1, rfl⟩, a1, a2, A1, A2, rfl⟩
          refine Y7 ?_
          refine Zor (c := hpr2 b18) (k := ?_)
          rintro _ _ ⟨⟨r2, rfl⟩, a3, a4, A3, A4, rfl⟩
          refine V7 ?_
          exact Zgl (j + 1, SlotS.touch s 2 m k, (p1, t1), h1, g1) qO ⟨by dsimp only; omega, hb2⟩ qI ⟨rfl, trivial⟩
      · obtain ⟨e1, e2, e3, e4⟩ := hbl.two.get hms
        have hb2 := hbl.to e3 (SlotS.get_near s p h m).text (SlotS.get_near s p h m).spages e4 (c := (0, m, 0)) ⟨by dsimp only; omega, by dsimp only; omega, by dsimp only; omega⟩
        dsimp only at hb2
        have hgt := sget_x (q := q) (pp := pp) (ph := ph) hfit hok hov (by omega) (by omega) (m : Int)
        have hgt2 := sget_x (q := q') (pp := pp') (ph := ph') hfit2 hok2 hov2 (by omega) (by omega) (m : Int)
        rw [e1] at hgt
        rw [e2] at hgt2
        generalize (SlotS.getS s p h m).1.1 = B1 at *
        generalize (SlotS.getS s p h m).1.2 = r1 at *
        generalize (SlotS.getS s p h m).2.2.1 = p1 at *
        generalize (SlotS.getS s p h m).2.2.2 = h1 at *
        generalize (SlotS.getS s t g m).1.1 = B2 at *
        generalize (SlotS.getS s t g m).1.2 = r2 at *
        generalize (SlotS.getS s t g m).2.2.1 = t1 at *
        generalize (SlotS.getS s t g m).2.2.2 = g1 at *
        refine Y1 ?_
        refine Zhg (Zbr (a := x.script_[j].kind_) (b := 2) rfl rfl) ?_
        refine Zot 91 rfl (k2) ?_
        refine Y4 ?_
        refine Zhg (Zbr (a := x.script_[j].kind_) (b := 3) rfl rfl) ?_
        refine Zot 106 rfl (k3) ?_
        refine Y6 ?_
        refine Zor (c := hgt) (k := ?_)
        rintro _ _ ⟨ga, gc, rfl, rfl⟩
        refine Y5 ?_
        refine Zor (c := hgt2) (k := ?_)
        rintro _ _ ⟨gb, gd, rfl, rfl⟩
        refine V7 ?_
        exact Zgl (j + 1, SlotS.touch s 0 m 0, (p1, t1), h1, g1) qO ⟨by dsimp only; omega, hb2⟩ qI ⟨rfl, trivial⟩
  · have hlog : h.log = g.log := hbl.two.hr.log
    obtain ⟨ol, hol2⟩ := sub_of (hi_tok hbl.two.i hok)
    have hoc : h.log.flatMap tcells = ol.flatMap ocells := by rw [hol2, List.flatMap_map]; with_unfolding_all rfl
    have holl : h.log.length = ol.length := by rw [hol2, List.length_map]
    refine Zgt (fun F w H => host_ok (p := ph) (s := h) qH H) ?_
    intro hho
    have hll := hho.log
    have hg1 := fun l1 c1 l2 c2 => sameLog15_x (L := [ownAcc l1 c1 s.log, ownAcc l2 c2 s.log]) (a := s.log) hbl.aok (Rd.own .here) (Rd.own (.there .here)) (by omega)
    have hg3 := fun l1 c1 l2 c2 => sameTouches_x (L := [ownLog l1 c1 h.log, ownLog l2 c2 g.log]) (a := ol) (by rw [← holl, ← hoc]; exact Rd.own .here) (by rw [← holl, ← hoc, hlog]; exact Rd.own (.there .here)) (by omega)
    have hlx := log_x (p := ph) (s := h) (by omega)
    have hlx2 := log_x (p := ph') (s := g) (by omega)
    have hsx := slog_x (q := q) (pp := pp) (s := s) (by omega)
    have hsx2 := slog_x (q := q') (pp := pp') (s := s) (by omega)
    by_cases hB : j < x.script_.length
    case' pos =>
      have h0 : ¬ 0 < nN x := fun hh => hc ⟨hB, hh⟩
      refine Y3 ?_
      refine Zhp rfl qH (hscr) ?_
      refine Y2 ?_
      refine Zos 54 rfl (hB) ?_
      refine Y3 ?_
      refine Zot 57 rfl (h0) ?_
      refine V2 ?_
    case' neg =>
      refine Y3 ?_
      refine Zhp rfl qH (hscr) ?_
      refine Y2 ?_
      refine Zot 54 rfl (hB) ?_
      refine V5 ?_
    all_goals
      refine Y3 ?_
      refine Zor (c := hsx) (k := ?_)
      rintro _ _ ⟨l1, c1, rfl, rfl⟩
      refine Y2 ?_
      refine Zor (c := hsx2) (k := ?_)
      rintro _ _ ⟨l2, c2, rfl, rfl⟩
      refine Y1 ?_
      refine Zor (c := hg1 l1 c1 l2 c2) (k := ?_)
      rintro _ _ ⟨rfl, rfl⟩
      refine Y3 ?_
      first|refine Y0 ?_|(refine Zhh rfl ?_; (refine Zor (c := hlx) (k := ?_)); (rintro _ _ ⟨l3, c3, rfl, rfl⟩); (refine Zg2 qA ?_))
      refine Y1 ?_
      first|refine Y0 ?_|(refine Zhh rfl ?_; (refine Zor (c := hlx2) (k := ?_)); (rintro _ _ ⟨l4, c4, rfl, rfl⟩); (refine Zg2 qA ?_))
      first|refine Y0 ?_|(refine Zhh rfl ?_; (refine Zor (c := hg3 l3 c3 l4 c4) (k := ?_)); (rintro _ _ ⟨rfl, rfl⟩); (refine Zg2 qA ?_))
      refine V3 ?_
      refine rx1 (Zha rfl (Zg7)) ?_
      exact ⟨_, ⟨rfl, rfl⟩, qI⟩
end
end Go.Sl
namespace Go.Sl
open Go Go.Proofs Go.ChangeShapes Go.WideShapes Go.ChangeAt Go.RowKit
open YtkifhflakdkemaaGreat (Rows.uptoBulk Rows.uptoBulkAll)
variable {H : Type} {enc : TypeId × Value → H} {P : Program} {w : World} {base : Nat} {spare : Nat → Bool} {held : Bool}
end Go.Sl
namespace Go.Sl
open Go Go.Proofs Go.ChangeShapes Go.WideShapes Go.ChangeAt Go.RowKit
section
variable {H : Type} {enc : TypeId × Value → H} {P : Program} {w : World} {base : Nat} {spare : Nat → Bool} {held : Bool}
end
end Go.Sl
namespace Go.Sl
open Go Go.Proofs Go.ChangeShapes Go.WideShapes Go.ChangeAt Go.RowKit
section
variable {H : Type} {enc : TypeId × Value → H} {w : World} {base : Nat} {spare : Nat → Bool} {held : Bool}
end
theorem win_of {W : World} {x : WorldV} (ok : WorldVOk W x) : WIn [old W] x := by
  have hf := ok.faults_
  have ho := ok.script_
  obtain ⟨a, c, hv, _⟩ := hf.sh
  exact ⟨ok.key_, ⟨a, _, c, hv⟩, ⟨Rd.old .here ho.sl, fun o h => ⟨(ho.el o h).b_.bs .here, (ho.el o h).b_.len⟩⟩, ok.pages_, ok.text_, ok.window_, ok.n_A, ok.size_A⟩
end Go.Sl
namespace Go.Sl
open Go Go.Proofs Go.ChangeShapes Go.WideShapes Go.ChangeAt Go.RowKit
theorem blind_w (W : World) (x : WorldV) (ok : WorldVOk W x) (key : List Byte) (hk : key.length = 32) (v : Value) (ot : List (Value × List Byte)) (hot : InR W v ot) : Con Tryz.prog 6 [.agg x.cells.toArray, .agg (key.map u8b).toArray, v] [old W] (fun r M => r = .bool true ∧ [old W] = M) := by
  have hl := ok.script_.len
  have := blind_x (win_of ok) hk (hot.rs (M := [old W]) .here) (by omega)
  with_unfolding_all unfold wds at this
  exact this
end Go.Sl
