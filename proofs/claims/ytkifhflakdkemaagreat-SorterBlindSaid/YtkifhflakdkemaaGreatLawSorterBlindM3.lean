/- Parts of the proof. -/
import Derived.Test.YtkifhflakdkemaaGreatLawSorterBlindM0
import Derived.Test.YtkifhflakdkemaaGreatLawSorterBlindM1
import Derived.Test.YtkifhflakdkemaaGreatLawSorterBlindM2
set_option maxHeartbeats 4000000
set_option maxRecDepth 10000
set_option linter.unusedVariables false
set_option linter.unusedSimpArgs false
namespace Go.Sl
open Go Go.Proofs
attribute [local irreducible] pt own old pur ex all den denOps denS xOps xC cX CX xthen xblk xcut xloop xng retX resX Calls PV Rd Con
attribute [local irreducible] hostA pcl pgSealB pgOpenR PagerS.writeP PagerS.roomP HostS.readR
open PagerS (PS Over)
section
variable {p ph : Nat} {s : PS} {h : HostS.HS}
theorem load_x (hov : Over s h) (hops : h.ops + 1 < 3518437208880) (n : Int) :
    Con Tryz.prog 81 [hp p, .int .i64 n] [pgA p ph s, hostA ph h] (fun r M => ∃ a c, r = .tuple #[.slice a (PagerS.loadP s h n).1.1.length c, nvv (PagerS.loadP s h n).1.2] ∧ M = [ownB a c (PagerS.loadP s h n).1.1, pgA p ph (PagerS.loadP s h n).2.1, hostA ph (PagerS.loadP s h n).2.2]) := by
  by_cases hr : PagerS.rightP s n = 0
  · obtain ⟨hr0, hr1⟩ : s.err = 0 ∧ 0 ≤ n ∧ n < s.pages := by
      unfold PagerS.rightP at hr
      split at hr
      · rename_i he; exact absurd hr he
      · rename_i he
        split at hr
        · cases hr
        · rename_i hpp; exact ⟨by omega, by omega, by omega⟩
    refine Con.pgA fun c l hk => ?_
    refine Con.pre ?_ (pgA_mk hk)
    by_cases hin : n ∈ fpages l
    · obtain ⟨i, hi, rfl⟩ := held_lt hk hin
      have e : PagerS.loadP s h l[i].1.page = ((l[i].1.text, 0), PagerS.useP s l[i].1, h) := by
        unfold PagerS.loadP
        rw [if_pos hr, hk.fr hi]
      rw [e]
      refine fn_y Tryz.func81 Tryz.mixed ?_
      intro w0
      refine Y7 ?_
      refine Zor (c := right_p l[i].1.page) (k := ?_)
      rintro _ _ ⟨rfl, rfl⟩
      refine Y6 ?_
      refine Zot 17 rfl (fun hh => hh hr) ?_
      refine V2 ?_
      refine x_pgA fun c l' hk' => ?_
      simp only [List.cons_append, List.nil_append]
      obtain ⟨j, hj, ej⟩ := held_lt hk' (n := l[i].1.page) (by rw [← numbers_f hk', numbers_f hk]; exact hin)
      have hfr : l'[j].1 = l[i].1 := by
        have e1 := hk'.fr hj
        rw [ej, hk.fr hi] at e1
        exact (Option.some.inj e1).symm
      rw [← hfr]
      have htl : l'[j].1.text.length = s.text := hk'.ok.len _ (by rw [hk'.held]; exact List.mem_map.2 ⟨l'[j], List.getElem_mem hj, rfl⟩)
      have his : l'[j].1.is ≤ 2 := hk'.ok.is _ (by rw [hk'.held]; exact List.mem_map.2 ⟨l'[j], List.getElem_mem hj, rfl⟩)
      have hr2 := hr1
      rw [← ej] at hr2 hr
      have hat := others_at hk'.nodup hj
      have hkey := hk'.ok.key
      refine Y4 ?_
      refine Zhp rfl qH (pg_f hkey (k := 4) rfl) ?_
      refine Y1 ?_
      refine Zoc rfl rfl qH (v := hp l'[j].2.1) (by rw [heldF_at hk'.nodup hj]; rfl) ?_
      refine Y5 ?_
      refine Zhn 26 rfl (rfl) ?_
      refine Y6 ?_
      refine Zor (c := use_x hk'.ok.key (zs := fpages l') (by rw [show (fpages l').length = l'.length by simp [fpages]]; exact hk'.len) hk'.nodup (F := heldF l') l'[j].1.page (l'[j].2.1) (by have := hk'.ok.most; have := hk'.ok.w1; omega) hk'.n) (k := ?_)
      rintro _ _ ⟨oa', oc', rfl⟩
      refine V2 ?_
      refine Zgp (((Imp.arr (N := star frA l' :: cl p (pcl { s with most := max s.most (used (fpages l') l'[j].1.page).length } { c with oa := oa', n := (used (fpages l') l'[j].1.page).length, oc := oc' }) 147 :: fmA c.bh (fput (heldF l') l'[j].1.page (some (hp l'[j].2.1))) :: fmA c.bl (lastF s.last) :: ownI oa' oc' (used (fpages l') l'[j].1.page) :: [hostA ph h]) qV).trans (star_at hj)).trans frA_open) ?_
      refine Y5 ?_
      refine Zor (c := cloneB_x (L := [ownB (l'[j].2.2.1) (l'[j].2.2.2) l'[j].1.text]) (Rd.own .here) (by have := hk'.ok.t1; omega)) (k := ?_)
      rintro _ _ ⟨a', c', rfl, rfl⟩
      refine V4 ?_
      refine rx2 (Zhc rfl (Zg9 rfl (Zg7))) ?_
      have hpk := pg_used (p := p) (L := [hostA ph h]) hk' l'[j] (.inl (by rw [hk'.fr hj]; rfl)) hr2 htl his oa' oc'
      rw [hat] at hpk
      refine ⟨_, ⟨a', c', rfl, rfl⟩, ?_⟩
      exact (Imp.arr (N := ownB a' c' l'[j].1.text :: cl l'[j].2.1 #[.slice l'[j].2.2.1 l'[j].1.text.length l'[j].2.2.2, nvv l'[j].1.is] 187 :: ownB l'[j].2.2.1 l'[j].2.2.2 l'[j].1.text :: star frA (l'.eraseIdx j) :: cl p (pcl { s with most := max s.most (used (fpages l') l'[j].1.page).length } { c with oa := oa', n := (used (fpages l') l'[j].1.page).length, oc := oc' }) 147 :: fmA c.bh (fput (heldF l') l'[j].1.page (some (hp l'[j].2.1))) :: fmA c.bl (lastF s.last) :: ownI oa' oc' (used (fpages l') l'[j].1.page) :: [hostA ph h]) qV).trans (Imp.cons ((frA_mk.trans (Imp.arr qV)).trans hpk))
    · have hno := hk.none hin
      have hnn : n ∉ PagerS.numbers s := by rw [numbers_f hk]; exact hin
      obtain ⟨ro1, ro2⟩ := roomP_over hov
      obtain ⟨rs1, rs2, rs3, rs4, rs5, rs6⟩ := roomP_same (h := h) hk.ok
      have hops1 : (PagerS.roomP s h).2.2.ops < 3518437208880 := by omega
      refine fn_y Tryz.func81 Tryz.mixed ?_
      intro w0
      refine Y7 ?_
      refine Zor (c := right_p n) (k := ?_)
      rintro _ _ ⟨rfl, rfl⟩
      refine Y6 ?_
      refine Zot 17 rfl (fun hh => hh hr) ?_
      refine V2 ?_
      refine x_pgA fun c l hk => ?_
      simp only [List.cons_append, List.nil_append]
      have hin : n ∉ fpages l := by rw [← numbers_f hk]; exact hnn
      have hkey := hk.ok.key
      refine Y4 ?_
      refine Zhp rfl qH (pg_f hkey (k := 4) rfl) ?_
      refine Y1 ?_
      refine Zoc rfl rfl qH (v := .pointer none) (by rw [heldF_no hin]; rfl) ?_
      refine Y5 ?_
      refine Zhm 26 rfl (rfl) ?_
      refine V2 ?_
      refine Zgp ((Imp.arr (N := pgL p s c l ++ [hostA ph h]) qV).trans (pgA_mk hk)) ?_
      refine Y2 ?_
      refine Zor (c := room_x hov (by omega)) (k := ?_)
      rintro _ _ ⟨rfl, rfl⟩
      refine V3 ?_
      by_cases hz : (PagerS.roomP s h).1 = 0
      · refine Y3 ?_
        refine Zot 30 rfl (fun hh => hh hz) ?_
        refine V2 ?_
        have e : PagerS.loadP s h n = PagerS.fetchP (PagerS.roomP s h).2.1 (PagerS.roomP s h).2.2 n := by
          unfold PagerS.loadP
          rw [if_pos hr, hno]
          dsimp only
          rw [if_pos hz]
        rw [e]
        have hroom := rs6 hz
        rw [← rs1] at hroom
        have hnn1 := rs5 n hnn
        rw [← rs2] at hr1
        generalize (PagerS.roomP s h).2.1 = s1 at *
        generalize (PagerS.roomP s h).2.2 = h1 at *
        refine Y1 ?_
        refine Zhg (Zdm (cs := #[.slice none 0 0, .int .i64 0]) (by kernel_rfl)) ?_
        refine Zh5 rfl ?_; intro b33
        refine V2 ?_
        refine Zgp (Imp.arr (N := pgA p ph s1 :: cl b33 #[.slice none 0 0, nvv 0] 187 :: [hostA ph h1]) qV) ?_
        refine x_pgA fun c l hk => ?_
        simp only [List.cons_append, List.nil_append]
        have hin : n ∉ fpages l := by rw [← numbers_f hk]; exact hnn1
        have hkey := hk.ok.key
        have hoth := others_no hin
        obtain rfl := hk.ph
        cases hl : s1.last n with
        | none =>
          have e : PagerS.fetchP s1 h1 n = ((List.replicate s1.text 0#8, 0), PagerS.useP s1 ⟨n, List.replicate s1.text 0#8, 0⟩, h1) := by unfold PagerS.fetchP; rw [hl]
          rw [e]
          refine Y4 ?_
          refine Zhp rfl qH (pg_f hkey (k := 6) rfl) ?_
          refine Y1 ?_
          refine Zoe rfl rfl qH (v := .agg (plc plc0)) (t := false) (by unfold lastF; rw [hl]; rfl) (by unfold lastF; rw [hl]; rfl) ?_
          refine Y3 ?_
          refine Zhz (cs := #[u64b 0#64, u32b 0#32, u32b 0#32, u32b 0#32]) rfl ?_; intro b9
          first|refine Zhy rfl rfl qR qZ qN qZ ?_|refine Zhx rfl rfl qR qZ qN qZ rfl ?_
          refine V6 ?_
          have htx0 := hk.ok.t0
          have htx1 := hk.ok.t1
          refine Y5 ?_
          refine Zhp rfl qH (pg_f hkey (k := 3) rfl) ?_
          refine Zm3 (f := u8b) (a := 0#8) rfl rfl rfl qS qS qS ?_; intro b81
          refine V4 ?_
          have hrl : (List.replicate s1.text 0#8).length = s1.text := List.length_replicate ..
          refine Zgp ((Imp.arr (N := cl b81 ((List.replicate s1.text 0#8).map u8b).toArray 5 :: cl b33 #[.slice (some ⟨b81, 0, none⟩) s1.text s1.text, nvv 0] 187 :: pgL p s1 c l ++ [hostA c.ph h1]) qV).trans (Imp.own_mk (E := 5) (size := 1) (n := (List.replicate s1.text 0#8).length) (cap := s1.text) (xs := (List.replicate s1.text 0#8).map u8b) (by simp) (by omega) (by simp) (by simp))) ?_
          simp only [List.cons_append, List.nil_append]
          have hcl : cl b33 #[.slice (some ⟨b81, 0, none⟩) s1.text s1.text, nvv 0] 187 = cl b33 #[.slice (some ⟨b81, 0, none⟩) (List.replicate s1.text 0#8).length s1.text, nvv 0] 187 := by rw [hrl]
          rw [hcl]
          refine Y4 ?_
          refine Zor (c := use_x hk.ok.key (zs := fpages l) (by rw [show (fpages l).length = l.length by simp [fpages]]; exact hk.len) hk.nodup (F := heldF l) n (b33) (by have := hk.ok.most; have := hk.ok.w1; omega) hk.n) (k := ?_)
          rintro _ _ ⟨oa', oc', rfl⟩
          refine Y7 ?_
          refine Zor (c := cloneB_x (L := [ownB (some ⟨b81, 0, none⟩) (s1.text) (List.replicate s1.text 0#8)]) (Rd.own .here) (by have := hk.ok.t1; omega)) (k := ?_)
          rintro _ _ ⟨a', c', rfl, rfl⟩
          refine V4 ?_
          refine rx2 (Zhc rfl (Zg9 rfl (Zg7))) ?_
          have hpk := pg_used (p := p) (L := [hostA c.ph h1]) hk ((⟨n, List.replicate s1.text 0#8, 0⟩, b33, some ⟨b81, 0, none⟩, s1.text) : FV) (.inr hroom) hr1 (by simp) (by dsimp only; omega) oa' oc'
          dsimp only at hpk
          rw [hoth] at hpk
          refine ⟨_, ⟨a', c', rfl, rfl⟩, ?_⟩
          exact (Imp.arr (N := ownB a' c' (List.replicate s1.text 0#8) :: cl b33 #[.slice (some ⟨b81, 0, none⟩) (List.replicate s1.text 0#8).length (s1.text), nvv 0] 187 :: ownB (some ⟨b81, 0, none⟩) (s1.text) (List.replicate s1.text 0#8) :: star frA l :: cl p (pcl { s1 with most := max s1.most (used (fpages l) n).length } { c with oa := oa', n := (used (fpages l) n).length, oc := oc' }) 147 :: fmA c.bh (fput (heldF l) n (some (hp b33))) :: fmA c.bl (lastF s1.last) :: ownI oa' oc' (used (fpages l) n) :: [hostA c.ph h1]) qV).trans (Imp.cons ((((frA_mk (e := ((⟨n, List.replicate s1.text 0#8, 0⟩, b33, some ⟨b81, 0, none⟩, s1.text) : FV))).trans (Imp.arr qV))).trans hpk))
        | some pl =>
          refine Y4 ?_
          refine Zhp rfl qH (pg_f hkey (k := 6) rfl) ?_
          refine Y1 ?_
          refine Zoe rfl rfl qH (v := .agg (plc pl)) (t := true) (by unfold lastF; rw [hl]; rfl) (by unfold lastF; rw [hl]; rfl) ?_
          refine Y3 ?_
          refine Zhz (cs := #[u64b 0#64, u32b 0#32, u32b 0#32, u32b 0#32]) rfl ?_; intro b9
          first|refine Zhy rfl rfl qR qZ qN qZ ?_|refine Zhx rfl rfl qR qZ qN qZ rfl ?_
          refine V6 ?_
          refine Zgt (fun F w H => host_ok qH H) ?_
          intro hho
          have herr := readR_err2 h1 n
          refine Y4 ?_
          refine Zhp rfl qH (pg_st) ?_
          refine Y1 ?_
          refine Znt rfl (met_read c.ph) (by kernel_rfl) (read_x (p := c.ph) n hops1) rfl qT ?_
          rintro _ _ ⟨xa, xc, rfl, rfl⟩
          refine V7 ?_
          by_cases h0 : (HostS.readR h1 n).2.1 = 0
          · have hbl := readR_len hho h0
            have hsz := ro1.size
            have hpz := pg_size (c := c) hkey
            have htx1 := hk.ok.t1
            have hop := fun xa xc => pgOpen_x (L := [ownB xa xc (HostS.readR h1 n).1]) s1.key hkey pl (Bs.own .here) (by omega)
            refine Y3 ?_
            refine Zos 54 rfl (h0) ?_
            refine V2 ?_
            refine Zij ([cl p (pcl s1 c) 147, cl b9 (plc pl) 189, cl b33 #[.slice none 0 0, nvv 0] 187]) [5] (.q 0 (.q 1 (.q 2 (.q 3 (.q 6 (.r 4 (.r 5 (.e 7 false (.q 8 (.q 9 (.q 10 (.q 11 (.q 12 (.e 13 false (.q 14 .nil))))))))))))))) (by kernel_rfl) (by kernel_rfl) (Imp.arr qV) ?_
            refine W5 ?_
            refine Zix (n := 32) rfl rfl qH qZ (pg_key hkey) ?_
            refine W1 ?_
            refine Ziq rfl ?_
            refine Zor (c := hop xa xc) (k := ?_)
            rintro _ _ ⟨ya, yc, rfl, rfl⟩
            refine Y1 ?_
            refine Zg3 ⟨(fun hh => Bool.noConfusion hh), ?_⟩
            refine W5 ?_
            refine Ziq rfl ?_
            refine Y1 ?_
            refine Zg3 ⟨(fun hh => Bool.noConfusion hh), ?_⟩
            refine W2 ?_
            refine Ct.o ?_
            by_cases h2 : (pgOpenR s1.key pl (HostS.readR h1 n).1).2 = 0
            · have e : PagerS.fetchP s1 h1 n = (((pgOpenR s1.key pl (HostS.readR h1 n).1).1, 0), PagerS.useP s1 ⟨n, (pgOpenR s1.key pl (HostS.readR h1 n).1).1, 1⟩, (HostS.readR h1 n).2.2) := by
                unfold PagerS.fetchP
                rw [hl]
                dsimp only
                rw [if_pos h0, if_pos h2]
              rw [e]
              refine Y3 ?_
              refine Zot 69 rfl (fun hh => hh h2) ?_
              refine V8 ?_
              have hot : (pgOpenR s1.key pl (HostS.readR h1 n).1).1.length = s1.text := by
                have := pg_form s1.key pl (HostS.readR h1 n).1 (by
                  by_cases hh : pgOpens s1.key pl (HostS.readR h1 n).1
                  · exact hh
                  · rw [pgOpenR_not _ _ _ hh] at h2; cases h2)
                omega
              refine Y4 ?_
              refine Zor (c := use_x hk.ok.key (zs := fpages l) (by rw [show (fpages l).length = l.length by simp [fpages]]; exact hk.len) hk.nodup (F := heldF l) n (b33) (by have := hk.ok.most; have := hk.ok.w1; omega) hk.n) (k := ?_)
              rintro _ _ ⟨oa', oc', rfl⟩
              refine Y7 ?_
              refine Zor (c := cloneB_x (L := [ownB (ya) (yc) ((pgOpenR s1.key pl (HostS.readR h1 n).1).1)]) (Rd.own .here) (by have := hk.ok.t1; omega)) (k := ?_)
              rintro _ _ ⟨a', c', rfl, rfl⟩
              refine V4 ?_
              refine rx2 (Zhc rfl (Zg9 rfl (Zg7))) ?_
              have hpk := pg_used (p := p) (L := [hostA c.ph (HostS.readR h1 n).2.2]) hk ((⟨n, (pgOpenR s1.key pl (HostS.readR h1 n).1).1, 1⟩, b33, ya, yc) : FV) (.inr hroom) hr1 hot (by dsimp only; omega) oa' oc'
              dsimp only at hpk
              rw [hoth] at hpk
              refine ⟨_, ⟨a', c', rfl, rfl⟩, ?_⟩
              exact (Imp.arr (N := ownB a' c' ((pgOpenR s1.key pl (HostS.readR h1 n).1).1) :: cl b33 #[.slice (ya) ((pgOpenR s1.key pl (HostS.readR h1 n).1).1).length (yc), nvv 1] 187 :: ownB (ya) (yc) ((pgOpenR s1.key pl (HostS.readR h1 n).1).1) :: star frA l :: cl p (pcl { s1 with most := max s1.most (used (fpages l) n).length } { c with oa := oa', n := (used (fpages l) n).length, oc := oc' }) 147 :: fmA c.bh (fput (heldF l) n (some (hp b33))) :: fmA c.bl (lastF s1.last) :: ownI oa' oc' (used (fpages l) n) :: [hostA c.ph (HostS.readR h1 n).2.2]) qV).trans (Imp.cons ((((frA_mk (e := ((⟨n, (pgOpenR s1.key pl (HostS.readR h1 n).1).1, 1⟩, b33, ya, yc) : FV))).trans (Imp.arr qV))).trans hpk))
            · have e : PagerS.fetchP s1 h1 n = (([], (pgOpenR s1.key pl (HostS.readR h1 n).1).2), PagerS.die s1 (pgOpenR s1.key pl (HostS.readR h1 n).1).2, (HostS.readR h1 n).2.2) := by
                unfold PagerS.fetchP
                rw [hl]
                dsimp only
                rw [if_pos h0, if_neg h2]
              rw [e]
              have hbig : (pgOpenR s1.key pl (HostS.readR h1 n).1).2 ≤ 1000 := by
                with_unfolding_all unfold pgOpenR
                split <;> simp
              refine Y3 ?_
              refine Zos 69 rfl (h2) ?_
              refine Y5 ?_
              refine Zor (c := die_x hkey (pgOpenR s1.key pl (HostS.readR h1 n).1).2) (k := ?_)
              rintro _ _ ⟨rfl, rfl⟩
              refine V4 ?_
              refine rx2 (Zhc rfl (Zg9 rfl (Zg7))) ?_
              have hkd : PgOk c.ph (PagerS.die s1 (pgOpenR s1.key pl (HostS.readR h1 n).1).2) c l := ⟨PagerS.ok_die hk.ok _ hbig, rfl, hk.held, hk.n⟩
              exact ⟨_, ⟨none, 0, rfl, rfl⟩, ((Imp.arr (N := pgL p (PagerS.die s1 (pgOpenR s1.key pl (HostS.readR h1 n).1).2) c l ++ [hostA c.ph (HostS.readR h1 n).2.2]) qV).trans (pgA_mk hkd)).trans Imp.own_nil⟩
          · have e : PagerS.fetchP s1 h1 n = (([], (HostS.readR h1 n).2.1), PagerS.die s1 (HostS.readR h1 n).2.1, (HostS.readR h1 n).2.2) := by
              unfold PagerS.fetchP
              rw [hl]
              dsimp only
              rw [if_neg h0]
            rw [e]
            refine Y3 ?_
            refine Zot 54 rfl (h0) ?_
            refine Y5 ?_
            refine Zos 69 rfl (h0) ?_
            refine Y5 ?_
            refine Zor (c := die_x hkey (HostS.readR h1 n).2.1) (k := ?_)
            rintro _ _ ⟨rfl, rfl⟩
            refine V4 ?_
            refine rx2 (Zhc rfl (Zg9 rfl (Zg7))) ?_
            have hkd : PgOk c.ph (PagerS.die s1 (HostS.readR h1 n).2.1) c l := ⟨PagerS.ok_die hk.ok _ herr, rfl, hk.held, hk.n⟩
            exact ⟨_, ⟨none, 0, rfl, rfl⟩, ((Imp.arr (N := pgL p (PagerS.die s1 (HostS.readR h1 n).2.1) c l ++ [hostA c.ph (HostS.readR h1 n).2.2]) qV).trans (pgA_mk hkd)).trans Imp.own_nil⟩
      · have e : PagerS.loadP s h n = (([], (PagerS.roomP s h).1), (PagerS.roomP s h).2) := by
          unfold PagerS.loadP
          rw [if_pos hr, hno]
          dsimp only
          rw [if_neg hz]
        rw [e]
        refine Y3 ?_
        refine Zos 30 rfl (hz) ?_
        refine V7 ?_
        refine rx2 (Zhc rfl (Zg9 rfl (Zg7))) ?_
        exact ⟨_, ⟨none, 0, rfl, rfl⟩, (Imp.arr (N := [pgA p ph (PagerS.roomP s h).2.1, hostA ph (PagerS.roomP s h).2.2]) qV).trans Imp.own_nil⟩
  · have e : PagerS.loadP s h n = (([], PagerS.rightP s n), s, h) := by unfold PagerS.loadP; rw [if_neg hr]
    rw [e]
    refine fn_y Tryz.func81 Tryz.mixed ?_
    intro w0
    refine Y7 ?_
    refine Zor (c := right_p n) (k := ?_)
    rintro _ _ ⟨rfl, rfl⟩
    refine Y6 ?_
    refine Zos 17 rfl (hr) ?_
    refine V7 ?_
    refine rx2 (Zhc rfl (Zg9 rfl (Zg7))) ?_
    exact ⟨_, ⟨none, 0, rfl, rfl⟩, (Imp.arr (N := [pgA p ph s, hostA ph h]) qV).trans Imp.own_nil⟩
end
end Go.Sl
namespace Go.Sl
open Go Go.Proofs
attribute [local irreducible] pt own old pur ex all den denOps denS xOps xC cX CX xthen xblk xcut xloop xng retX resX Calls PV Rd Con
attribute [local irreducible] hostA pcl pgSealB pgOpenR PagerS.writeP PagerS.roomP HostS.readR
open PagerS (PS Over)
section
variable {p ph : Nat} {s : PS} {h : HostS.HS} {L : List Asrt}
theorem rightP_zero {n : Int} (hr : PagerS.rightP s n = 0) : s.err = 0 ∧ 0 ≤ n ∧ n < s.pages := by
  unfold PagerS.rightP at hr
  split at hr
  · rename_i he; exact absurd hr he
  · rename_i he
    split at hr
    · cases hr
    · rename_i hpp; exact ⟨by omega, by omega, by omega⟩
theorem save_x (hov : Over s h) (hops : h.ops + 1 < 3518437208880) (n : Int) {tv : Value} {t : List Byte} (ht : Bs L tv t) :
    Con Tryz.prog 82 [hp p, .int .i64 n, tv] (pgA p ph s :: hostA ph h :: L) (fun r M => r = nvv (PagerS.saveP s h n t).1 ∧ M = pgA p ph (PagerS.saveP s h n t).2.1 :: hostA ph (PagerS.saveP s h n t).2.2 :: L) := by
  refine Con.get (fun w0 w F H => ht.sh _ _ _ (H.enx (Imp.tail.trans Imp.tail))) ?_
  rintro ⟨ta, tc, rfl, htc, htcm⟩
  by_cases hr : PagerS.rightP s n = 0
  · obtain ⟨hr0, hr1⟩ := rightP_zero hr
    refine Con.pgA fun c l hk => ?_
    refine Con.pre ?_ (pgA_mk hk)
    have ht1 := hk.ok.t1
    by_cases htl : t.length = s.text
    · by_cases hin : n ∈ fpages l
      · obtain ⟨i, hi, rfl⟩ := held_lt hk hin
        have e : PagerS.saveP s h l[i].1.page t = (0, PagerS.useP s ⟨l[i].1.page, t, 2⟩, h) := by
          unfold PagerS.saveP
          rw [if_pos hr, if_pos htl, hk.fr hi]
        rw [e]
        refine fn_y Tryz.func82 Tryz.mixed ?_
        intro w0
        refine Y6 ?_
        refine Zor (c := right_p l[i].1.page) (k := ?_)
        rintro _ _ ⟨rfl, rfl⟩
        refine Y6 ?_
        refine Zot 13 rfl (fun hh => hh hr) ?_
        refine V2 ?_
        refine x_pgA fun c l' hk' => ?_
        simp only [List.cons_append, List.nil_append]
        obtain ⟨j, hj, ej⟩ := held_lt hk' (n := l[i].1.page) (by rw [← numbers_f hk', numbers_f hk]; exact hin)
        rw [← ej] at hr1 hr
        rw [← ej]
        have hkey := hk'.ok.key
        refine Y6 ?_
        refine Zhp rfl qH (pg_f hkey (k := 3) rfl) ?_
        refine Y1 ?_
        refine Zot 21 rfl (fun hh => hh htl) ?_
        refine Y6 ?_
        refine Zhp rfl qH (pg_f hkey (k := 4) rfl) ?_
        refine Y1 ?_
        refine Zoc rfl rfl qH (v := hp l'[j].2.1) (by rw [heldF_at hk'.nodup hj]; rfl) ?_
        refine Y1 ?_
        refine Zhn 28 rfl (rfl) ?_
        refine Y6 ?_
        refine Zor (c := cloneB_x (L := L) ht.rd (by omega)) (k := ?_)
        rintro _ _ ⟨xa, xc, rfl, rfl⟩
        refine Y1 ?_
        refine Zhg (Zdm (cs := #[.slice _ _ _, .int .i64 2]) rfl) ?_
        refine Zh5 rfl ?_; intro b39
        refine Zor (c := use_x hk'.ok.key (zs := fpages l') (by rw [show (fpages l').length = l'.length by simp [fpages]]; exact hk'.len) hk'.nodup (F := heldF l') (l'[j].1.page) b39 (by have := hk'.ok.most; have := hk'.ok.w1; omega) hk'.n) (k := ?_)
        rintro _ _ ⟨oa', oc', rfl⟩
        refine V5 ?_
        refine rx1 (Zg9 rfl (Zg7)) ?_
        have hat := others_at hk'.nodup hj
        have hpk := pg_used (p := p) (L := hostA ph h :: L) hk' ((⟨l'[j].1.page, t, 2⟩, b39, xa, xc) : FV) (.inl (by dsimp only; rw [hk'.fr hj]; rfl)) hr1 htl (by dsimp only; omega) oa' oc'
        dsimp only at hpk
        rw [hat] at hpk
        refine ⟨_, ⟨rfl, rfl⟩, ?_⟩
        exact ((Imp.arr (N := star frA l' :: cl b39 #[.slice xa t.length xc, nvv 2] 187 :: ownB xa xc t :: cl p (pcl { s with most := max s.most (used (fpages l') l'[j].1.page).length } { c with oa := oa', n := (used (fpages l') l'[j].1.page).length, oc := oc' }) 147 :: fmA c.bh (fput (heldF l') l'[j].1.page (some (hp b39))) :: fmA c.bl (lastF s.last) :: ownI oa' oc' (used (fpages l') l'[j].1.page) :: hostA ph h :: L) qV).trans ((star_at hj).trans Imp.tail)).trans (((Imp.arr (N := cl b39 #[.slice xa t.length xc, nvv 2] 187 :: ownB xa xc t :: star frA (l'.eraseIdx j) :: cl p (pcl { s with most := max s.most (used (fpages l') l'[j].1.page).length } { c with oa := oa', n := (used (fpages l') l'[j].1.page).length, oc := oc' }) 147 :: fmA c.bh (fput (heldF l') l'[j].1.page (some (hp b39))) :: fmA c.bl (lastF s.last) :: ownI oa' oc' (used (fpages l') l'[j].1.page) :: hostA ph h :: L) qV).trans (frA_mk (e := ((⟨l'[j].1.page, t, 2⟩, b39, xa, xc) : FV)))).trans ((Imp.arr qV).trans hpk))
      · have hno := hk.none hin
        have hnn : n ∉ PagerS.numbers s := by rw [numbers_f hk]; exact hin
        obtain ⟨ro1, ro2⟩ := roomP_over hov
        obtain ⟨rs1, rs2, rs3, rs4, rs5, rs6⟩ := roomP_same (h := h) hk.ok
        refine fn_y Tryz.func82 Tryz.mixed ?_
        intro w0
        refine Y6 ?_
        refine Zor (c := right_p n) (k := ?_)
        rintro _ _ ⟨rfl, rfl⟩
        refine Y6 ?_
        refine Zot 13 rfl (fun hh => hh hr) ?_
        refine V2 ?_
        refine x_pgA fun c l hk => ?_
        simp only [List.cons_append, List.nil_append]
        have hin : n ∉ fpages l := by rw [← numbers_f hk]; exact hnn
        have hkey := hk.ok.key
        refine Y6 ?_
        refine Zhp rfl qH (pg_f hkey (k := 3) rfl) ?_
        refine Y1 ?_
        refine Zot 21 rfl (fun hh => hh htl) ?_
        refine Y6 ?_
        refine Zhp rfl qH (pg_f hkey (k := 4) rfl) ?_
        refine Y1 ?_
        refine Zoc rfl rfl qH (v := .pointer none) (by rw [heldF_no hin]; rfl) ?_
        refine Y1 ?_
        refine Zhm 28 rfl (rfl) ?_
        refine V2 ?_
        refine Zgp ((Imp.arr (N := pgL p s c l ++ (hostA ph h :: L)) qV).trans (pgA_mk hk)) ?_
        refine Y2 ?_
        refine Zor (c := room_x hov (by omega)) (k := ?_)
        rintro _ _ ⟨rfl, rfl⟩
        refine V3 ?_
        by_cases hz : (PagerS.roomP s h).1 = 0
        · have e : PagerS.saveP s h n t = (0, PagerS.useP (PagerS.roomP s h).2.1 ⟨n, t, 2⟩, (PagerS.roomP s h).2.2) := by
            unfold PagerS.saveP
            rw [if_pos hr, if_pos htl, hno]
            dsimp only
            rw [if_pos hz]
          rw [e]
          refine Y3 ?_
          refine Zot 32 rfl (fun hh => hh hz) ?_
          refine V2 ?_
          have hroom := rs6 hz
          rw [← rs1] at hroom
          have hnn1 := rs5 n hnn
          rw [← rs2] at hr1
          have htl1 : t.length = (PagerS.roomP s h).2.1.text := htl.trans rs3.symm
          generalize (PagerS.roomP s h).2.1 = s1 at *
          generalize (PagerS.roomP s h).2.2 = h1 at *
          refine Zgp (Imp.arr (N := pgA p ph s1 :: hostA ph h1 :: L) qV) ?_
          refine x_pgA fun c l' hk' => ?_
          simp only [List.cons_append, List.nil_append]
          have hin : n ∉ fpages l' := by rw [← numbers_f hk']; exact hnn1
          have hkey := hk'.ok.key
          have hoth := others_no hin
          refine Y4 ?_
          refine Zor (c := cloneB_x (L := L) ht.rd (by omega)) (k := ?_)
          rintro _ _ ⟨xa, xc, rfl, rfl⟩
          refine Y1 ?_
          refine Zhg (Zdm (cs := #[.slice _ _ _, .int .i64 2]) rfl) ?_
          refine Zh5 rfl ?_; intro b39
          refine Zor (c := use_x hk'.ok.key (zs := fpages l') (by rw [show (fpages l').length = l'.length by simp [fpages]]; exact hk'.len) hk'.nodup (F := heldF l') (n) b39 (by have := hk'.ok.most; have := hk'.ok.w1; omega) hk'.n) (k := ?_)
          rintro _ _ ⟨oa', oc', rfl⟩
          refine V5 ?_
          refine rx1 (Zg9 rfl (Zg7)) ?_
          have hpk := pg_used (p := p) (L := hostA ph h1 :: L) hk' ((⟨n, t, 2⟩, b39, xa, xc) : FV) (.inr hroom) hr1 htl1 (by dsimp only; omega) oa' oc'
          dsimp only at hpk
          rw [hoth] at hpk
          refine ⟨_, ⟨rfl, rfl⟩, ?_⟩
          exact ((Imp.arr (N := cl b39 #[.slice xa t.length xc, nvv 2] 187 :: ownB xa xc t :: star frA l' :: cl p (pcl { s1 with most := max s1.most (used (fpages l') n).length } { c with oa := oa', n := (used (fpages l') n).length, oc := oc' }) 147 :: fmA c.bh (fput (heldF l') n (some (hp b39))) :: fmA c.bl (lastF s1.last) :: ownI oa' oc' (used (fpages l') n) :: hostA ph h1 :: L) qV).trans (frA_mk (e := ((⟨n, t, 2⟩, b39, xa, xc) : FV)))).trans ((Imp.arr qV).trans hpk)
        · have e : PagerS.saveP s h n t = PagerS.roomP s h := by
            unfold PagerS.saveP
            rw [if_pos hr, if_pos htl, hno]
            dsimp only
            rw [if_neg hz]
          rw [e]
          refine Y3 ?_
          refine Zos 32 rfl (hz) ?_
          refine V6 ?_
          refine rx1 (Zg9 rfl (Zg7)) ?_
          exact ⟨_, ⟨rfl, rfl⟩, qI⟩
    · have e : PagerS.saveP s h n t = (4, s, h) := by
        unfold PagerS.saveP
        rw [if_pos hr, if_neg htl]
      rw [e]
      refine fn_y Tryz.func82 Tryz.mixed ?_
      intro w0
      refine Y6 ?_
      refine Zor (c := right_p n) (k := ?_)
      rintro _ _ ⟨rfl, rfl⟩
      refine Y6 ?_
      refine Zot 13 rfl (fun hh => hh hr) ?_
      refine V2 ?_
      refine x_pgA fun c l hk => ?_
      simp only [List.cons_append, List.nil_append]
      have hkey := hk.ok.key
      refine Y6 ?_
      refine Zhp rfl qH (pg_f hkey (k := 3) rfl) ?_
      refine Y1 ?_
      refine Zos 21 rfl (htl) ?_
      refine V5 ?_
      refine rx1 (Zg9 rfl (Zg7)) ?_
      exact ⟨_, ⟨rfl, rfl⟩, (Imp.arr (N := pgL p s c l ++ (hostA ph h :: L)) qV).trans (pgA_mk hk)⟩
  · have e : PagerS.saveP s h n t = (PagerS.rightP s n, s, h) := by unfold PagerS.saveP; rw [if_neg hr]
    rw [e]
    refine fn_y Tryz.func82 Tryz.mixed ?_
    intro w0
    refine Y6 ?_
    refine Zor (c := right_p n) (k := ?_)
    rintro _ _ ⟨rfl, rfl⟩
    refine Y6 ?_
    refine Zos 13 rfl (hr) ?_
    refine V6 ?_
    refine rx1 (Zg9 rfl (Zg7)) ?_
    exact ⟨_, ⟨rfl, rfl⟩, qI⟩
end
end Go.Sl
namespace Go.Sl
open Go
theorem fill_seg {pl : Nat → Option (Nat × Nat)} {A B C V : List Value} {cs : Array Value} {i o n : Nat} {v : Value} {rest : List (Nat × Value)} (hp : pl i = some (o, n)) (ho : o = A.length) (hn : n = B.length) (hv : v.cells.toList = V) (hl : V.length = B.length) (k : Instr.fill pl (A ++ (V ++ C)).toArray rest = some cs) : Instr.fill pl (A ++ (B ++ C)).toArray ((i, v) :: rest) = some cs := by
  subst ho hn hv
  exact fill_part (z' := (A ++ (v.cells.toList ++ C)).toArray) hp (by rw [← hl]; simp) (by simp) (wr_mid A B C _ _ rfl hl) k
theorem fill_tl {pl : Nat → Option (Nat × Nat)} {H T T' : List Value} {cs : Array Value} {i o k : Nat} {v : Value} {rest : List (Nat × Value)} (hp : pl i = some (o, 1)) (ho : o = H.length + k) (hk : k < T.length) (hv : v.cells = #[v]) (hT : T.set k v = T') (hh : Instr.fill pl (H ++ T').toArray rest = some cs) : Instr.fill pl (H ++ T).toArray ((i, v) :: rest) = some cs := by
  subst ho hT
  refine fill_part (z' := (H ++ T.set k v).toArray) hp (by rw [hv]; rfl) (by simp; omega) ?_ hh
  rw [hv]
  apply Array.ext'
  rw [wr_toList _ _ _ (by simp; omega)]
  simp [List.take_append, List.drop_append, List.set_eq_take_append_cons_drop, hk]
  rw [List.take_of_length_le (by omega), List.drop_of_length_le (by omega), show H.length + k + 1 - H.length = k + 1 by omega]; rfl
theorem Zol {P : Program} {ρ : Env} {T E : Nat} {x : Operand} {a : Option Addr} [hs : TyPtr P T E] (hx : ev ρ x = .pointer a) : PV P (.makeInterface T x) ρ (.iface T (.pointer a)) := by
  intro oo w ho; unfold execOp; rw [ho]; refine op_run_value ?_; rw [hx]
  unfold Instr.makeInterface
  rw [run_bind P _ _ w w _ (run_under hs.h)]; rfl
end Go.Sl
namespace Go.Sl
open Go Go.Proofs
attribute [local irreducible] pt own old pur ex all den denOps denS xOps xC cX CX xthen xblk xcut xloop xng retX resX Calls PV Rd Con
attribute [local irreducible] hostA pgSealB pgOpenR PagerS.writeP PagerS.roomP HostS.readR
open PagerS (PS Over)
theorem met_pages (ph : Nat) : Met Tryz.prog 32 (hp ph) "Pages" 291 (hp ph) := by intro w; kernel_rfl
theorem met_size (ph : Nat) : Met Tryz.prog 32 (hp ph) "Size" 293 (hp ph) := by intro w; kernel_rfl
abbrev ptail0 : List Value := [.int .u64 0, .int .i64 0, .int .i64 0, .int .i64 0, .map none, .slice none 0 0, .map none, .int .i64 0, .int .u32 0, .int .i64 0]
abbrev ptailN (round : BitVec 64) (window pages : Int) (text : Nat) (bh bl : Nat) : List Value := [u64b round, .int .i64 window, .int .i64 pages, nvv text, .map (some bh), .slice none 0 0, .map (some bl), .int .i64 0, .int .u32 0, .int .i64 0]
theorem newp_fill {pl : Nat → Option (Nat × Nat)} {ph : Nat} {key : List Byte} {round : BitVec 64} {window pages : Int} {text bh bl : Nat} (hk : key.length = 32) (h0 : pl 0 = some (0, 1)) (h1 : pl 1 = some (1, 32)) (h2 : pl 2 = some (33, 1)) (h3 : pl 3 = some (34, 1)) (h4 : pl 4 = some (35, 1)) (h5 : pl 5 = some (36, 1)) (h6 : pl 6 = some (37, 1)) (h8 : pl 8 = some (39, 1)) :
    Instr.fill pl ([] ++ ([Value.nilIface] ++ (List.replicate 32 (Value.int .u8 0) ++ ptail0))).toArray [(0, stV ph), (1, .agg (key.map u8b).toArray), (2, u64b round), (3, .int .i64 window), (4, .int .i64 pages), (5, nvv text), (6, .map (some bh)), (8, .map (some bl))] = some ((stV ph :: key.map u8b) ++ ptailN round window pages text bh bl).toArray := by
  refine fill_seg (V := [stV ph]) h0 rfl rfl rfl rfl ?_
  refine fill_seg (A := [stV ph]) (V := key.map u8b) h1 rfl (by simp) (by simp [Value.cells]) (by simp [hk]) ?_
  have hh : (stV ph :: key.map u8b).length = 33 := by simp [hk]
  refine fill_tl (H := stV ph :: key.map u8b) (k := 0) h2 (by omega) (by decide) rfl rfl ?_
  refine fill_tl (k := 1) h3 (by omega) (by simp) rfl rfl ?_
  refine fill_tl (k := 2) h4 (by omega) (by simp) rfl rfl ?_
  refine fill_tl (k := 3) h5 (by omega) (by simp) rfl rfl ?_
  refine fill_tl (k := 4) h6 (by omega) (by simp) rfl rfl ?_
  refine fill_tl (k := 6) h8 (by omega) (by simp) rfl rfl ?_
  exact fill_end
section
variable {ph : Nat} {h : HostS.HS}
def newR (h : HostS.HS) (window : Int) : Nat := if window < 2 ∨ 16 < window then 2 else if h.size ≤ 28 then 5 else 0
theorem new_x {key : List Byte} (hk : key.length = 32) (round : BitVec 64) (window : Int) :
    Con Tryz.prog 21 [stV ph, .agg (key.map u8b).toArray, u64b round, .int .i64 window] [hostA ph h] (fun r M => (newR h window = 0 ∧ ∃ p, r = .tuple #[hp p, nvv 0] ∧ M = [pgA p ph (PagerS.freshP key round window.toNat h.pages (h.size - 28)), hostA ph h] ∧ PagerS.Ok (PagerS.freshP key round window.toNat h.pages (h.size - 28)) ∧ Over (PagerS.freshP key round window.toNat h.pages (h.size - 28)) h) ∨ (newR h window ≠ 0 ∧ r = .tuple #[.pointer none, nvv (newR h window)] ∧ M = [hostA ph h])) := by
  refine Con.get (fun w0 w F H => host_ok qH H) ?_
  intro hho
  unfold newR
  by_cases hw1 : window < 2
  · rw [if_pos (.inl hw1)]
    refine fn_y Tryz.func21 Tryz.mixed ?_
    intro w0
    refine Y1 ?_
    refine Zh5 rfl ?_; intro b5
    refine Y5 ?_
    refine Zhg (Zbn (b := 2) rfl rfl) ?_
    refine Zos 13 rfl (hw1) ?_
    refine V10 ?_
    refine rx2 (Zhb rfl (Zg9 rfl (Zg7))) ?_
    exact ⟨_, .inr ⟨by omega, rfl, rfl⟩, qI⟩
  by_cases hw2 : 16 < window
  · rw [if_pos (.inr hw2)]
    refine fn_y Tryz.func21 Tryz.mixed ?_
    intro w0
    refine Y1 ?_
    refine Zh5 rfl ?_; intro b5
    refine Y5 ?_
    refine Zhg (Zbn (b := 2) rfl rfl) ?_
    refine Zot 13 rfl (hw1) ?_
    refine Y2 ?_
    first|refine Y0 ?_|(refine Zhh rfl ?_; (refine Zhg (Zbp (b := 16) rfl rfl) ?_))
    refine Zos 16 rfl (hw2) ?_
    refine V7 ?_
    refine rx2 (Zhb rfl (Zg9 rfl (Zg7))) ?_
    exact ⟨_, .inr ⟨by omega, rfl, rfl⟩, qI⟩
  rw [if_neg (show ¬ (window < 2 ∨ 16 < window) by omega)]
  have hp0 := hho.p0
  have hp1 := hho.p1
  have hz0 := hho.z0
  have hz1 := hho.z1
  by_cases hz : h.size ≤ 28
  · rw [if_pos hz]
    refine fn_y Tryz.func21 Tryz.mixed ?_
    intro w0
    refine Y1 ?_
    refine Zh5 rfl ?_; intro b5
    refine Y5 ?_
    refine Zhg (Zbn (b := 2) rfl rfl) ?_
    refine Zot 13 rfl (hw1) ?_
    refine Y2 ?_
    first|refine Y0 ?_|(refine Zhh rfl ?_; (refine Zhg (Zbp (b := 16) rfl rfl) ?_))
    refine Zot 16 rfl (hw2) ?_
    refine Y5 ?_
    refine Znt rfl (met_pages ph) (by kernel_rfl) (pages_x) rfl qT ?_
    rintro _ _ ⟨rfl, rfl⟩
    refine Y2 ?_
    refine Znt rfl (met_size ph) (by kernel_rfl) (size_x) rfl qT ?_
    rintro _ _ ⟨rfl, rfl⟩
    refine Y6 ?_
    refine Zhg (Zbn (b := 0) rfl rfl) ?_
    refine Zot 23 rfl ((show ¬ h.pages < 0 by omega)) ?_
    refine Y2 ?_
    first|refine Y0 ?_|(refine Zhh rfl ?_; (refine Zhg (Zbp (b := 65536) rfl rfl) ?_))
    refine Zot 26 rfl ((show ¬ h.pages > 65536 by omega)) ?_
    refine Y3 ?_
    first|refine Y0 ?_|(refine Zhh rfl ?_; (refine Zhg (Zmg (b := 28) rfl rfl) ?_))
    refine Zos 30 rfl (hz) ?_
    refine V11 ?_
    refine rx2 (Zhb rfl (Zg9 rfl (Zg7))) ?_
    exact ⟨_, .inr ⟨by omega, rfl, rfl⟩, qI⟩
  · rw [if_neg hz]
    have hok : PagerS.Ok (PagerS.freshP key round window.toNat h.pages (h.size - 28)) := PagerS.ok_fresh hk (by omega) (by omega) (by omega)
    have hov : Over (PagerS.freshP key round window.toNat h.pages (h.size - 28)) h := ⟨rfl, by show h.size = h.size - 28 + 28; omega⟩
    refine fn_y Tryz.func21 Tryz.mixed ?_
    intro w0
    refine Y1 ?_
    refine Zh5 rfl ?_; intro b5
    refine Y5 ?_
    refine Zhg (Zbn (b := 2) rfl rfl) ?_
    refine Zot 13 rfl (hw1) ?_
    refine Y2 ?_
    first|refine Y0 ?_|(refine Zhh rfl ?_; (refine Zhg (Zbp (b := 16) rfl rfl) ?_))
    refine Zot 16 rfl (hw2) ?_
    refine Y5 ?_
    refine Znt rfl (met_pages ph) (by kernel_rfl) (pages_x) rfl qT ?_
    rintro _ _ ⟨rfl, rfl⟩
    refine Y2 ?_
    refine Znt rfl (met_size ph) (by kernel_rfl) (size_x) rfl qT ?_
    rintro _ _ ⟨rfl, rfl⟩
    refine Y6 ?_
    refine Zhg (Zbn (b := 0) rfl rfl) ?_
    refine Zot 23 rfl ((show ¬ h.pages < 0 by omega)) ?_
    refine Y2 ?_
    first|refine Y0 ?_|(refine Zhh rfl ?_; (refine Zhg (Zbp (b := 65536) rfl rfl) ?_))
    refine Zot 26 rfl ((show ¬ h.pages > 65536 by omega)) ?_
    refine Y3 ?_
    first|refine Y0 ?_|(refine Zhh rfl ?_; (refine Zhg (Zmg (b := 28) rfl rfl) ?_))
    refine Zot 30 rfl (hz) ?_
    refine Y3 ?_
    first|refine Y0 ?_|(refine Zhh rfl ?_; (refine Zhg (Zmh (b := 4124) rfl rfl) ?_))
    refine Zot 34 rfl ((show ¬ 4124 < h.size by omega)) ?_
    refine V3 ?_
    have e0 : window = ((window.toNat : Nat) : Int) := by omega
    refine Y7 ?_
    refine Zhg (Zmb (b := 28) rfl rfl (by omega) (by omega)) ?_
    refine Zoh ?_; intro bh
    refine Zoh ?_; intro bl
    refine Zhg (Zdm (cs := ((stV ph :: key.map u8b) ++ ptailN round window h.pages (h.size - 28) bh bl).toArray) (newp_fill hk rfl rfl rfl rfl rfl rfl rfl rfl)) ?_
    refine Zh5 rfl ?_; intro b46
    refine V3 ?_
    have ec : ((stV ph :: key.map u8b) ++ ptailN round window h.pages (h.size - 28) bh bl).toArray = pcl (PagerS.freshP key round window.toNat h.pages (h.size - 28)) ⟨ph, bh, none, 0, 0, bl⟩ := by
      unfold pcl
      show ((stV ph :: key.map u8b) ++ ptailN round window h.pages (h.size - 28) bh bl).toArray = ((stV ph :: key.map u8b) ++ [u64b round, .int .i64 ((window.toNat : Nat) : Int), .int .i64 h.pages, nvv (h.size - 28), .map (some bh), .slice none 0 0, .map (some bl), nvv 0, u32b (BitVec.ofNat 32 0), nvv 0]).toArray
      rw [← e0]; rfl
    rw [ec]
    refine rx2 (Zhb rfl (Zg9 rfl (Zg7))) ?_
    refine ⟨_, .inl ⟨rfl, b46, rfl, rfl, hok, hov⟩, ?_⟩
    have hkk : PgOk ph (PagerS.freshP key round window.toNat h.pages (h.size - 28)) ⟨ph, bh, none, 0, 0, bl⟩ [] := ⟨hok, rfl, rfl, rfl⟩
    have e1 : (fun _ => none : Int → Option Value) = heldF [] := rfl
    have e2 : (fun _ => none : Int → Option Value) = lastF (fun _ => none) := rfl
    have h1 : Imp (fmA bh (heldF []) :: fmA bl (lastF (fun _ => none)) :: cl b46 (pcl (PagerS.freshP key round window.toNat h.pages (h.size - 28)) ⟨ph, bh, none, 0, 0, bl⟩) 147 :: [hostA ph h]) (pgA b46 ph (PagerS.freshP key round window.toNat h.pages (h.size - 28)) :: [hostA ph h]) :=
      ((Imp.own_nil (E := 3) (size := 1)).trans (star_nil (A := frA))).trans ((Imp.arr (N := pgL b46 (PagerS.freshP key round window.toNat h.pages (h.size - 28)) ⟨ph, bh, none, 0, 0, bl⟩ [] ++ [hostA ph h]) qV).trans (pgA_mk hkk))
    rw [e2] at *
    exact (Imp.arr qV).trans h1
theorem pnew_ok {key : List Byte} (hk : key.length = 32) (round : BitVec 64) {window : Int} (hz : newR h window = 0) : Con Tryz.prog 21 [stV ph, .agg (key.map u8b).toArray, u64b round, .int .i64 window] [hostA ph h] (fun r M => ∃ p, r = .tuple #[hp p, nvv 0] ∧ M = [pgA p ph (PagerS.freshP key round window.toNat h.pages (h.size - 28)), hostA ph h]) :=
  (new_x hk round window).mono fun r M hh => by
    rcases hh with ⟨_, p, h1, h2, _, _⟩|⟨hn, _⟩
    · exact ⟨M, Imp.refl _, p, h1, h2⟩
    · exact absurd hz hn
end
end Go.Sl
namespace Go.Sl.PagerS
open Go Go.Sl Go.Sl.HostS
attribute [local irreducible] pgSealB pgOpenR
def Mild (h : HS) : Prop := ∀ k, ∀ f ∈ h.coming k, 3 ≤ f.kind
theorem spoil1_mild (h : HS) (n : Int) (b : Bytes) (f : Fault) (hk : 3 ≤ f.kind) : spoil1 h n b f = b := by
  unfold spoil1
  rw [if_neg (by omega), if_neg (by omega), if_neg (by omega)]
theorem spoilt_mild {h : HS} (hm : Mild h) (n : Int) : spoilt h n (h.coming h.ops) = back h n 0 := by
  unfold spoilt
  have : ∀ (l : List Fault) (b : Bytes), (∀ f ∈ l, 3 ≤ f.kind) → l.foldl (spoil1 h n) b = b := by
    intro l
    induction l with
    | nil => intro b _; rfl
    | cons f r ih =>
      intro b hl
      rw [List.foldl_cons, spoil1_mild _ _ _ _ (hl f (List.mem_cons_self ..))]
      exact ih b fun g hg => hl g (List.mem_cons_of_mem _ hg)
  exact this _ _ (hm h.ops)
theorem mild_taken {h : HS} (hm : Mild h) (c : Int → List Fault) (hc : c = setF h.coming h.ops []) (g : HS) (hg : g.coming = c) : Mild g := by
  intro k f hf
  rw [hg, hc] at hf
  unfold setF at hf
  split at hf
  · cases hf
  · exact hm k f hf
theorem does_coming (h : HS) (op n : Int) (b : Bytes) (act : HS → HS) (ha : ∀ g, (act g).coming = g.coming) : (does h op n b act).1.coming = h.coming ∨ (does h op n b act).1.coming = setF h.coming h.ops [] := by
  unfold does
  split
  · exact .inl rfl
  · dsimp only
    split
    · exact .inr rfl
    · split
      · exact .inr (ha _)
      · exact .inr (ha _)
theorem does_mild {h : HS} (hm : Mild h) (op n : Int) (b : Bytes) (act : HS → HS) (ha : ∀ g, (act g).coming = g.coming) : Mild (does h op n b act).1 := by
  rcases does_coming h op n b act ha with e|e
  · intro k f hf; rw [e] at hf; exact hm k f hf
  · exact mild_taken hm _ rfl _ e
theorem writeR_mild {h : HS} (hm : Mild h) (n : Int) (b : Bytes) : Mild (writeR h n b).2 := by
  unfold writeR
  split
  · split
    · exact does_mild hm _ _ _ _ fun _ => rfl
    · exact hm
  · exact hm
theorem readR_mild {h : HS} (hm : Mild h) (n : Int) : Mild (readR h n).2.2 := by
  have := does_mild hm 0 n [] id fun _ => rfl
  unfold readR
  split
  · dsimp only
    split
    · exact this
    · exact this
  · exact hm
theorem does_zero {h : HS} {op n : Int} {b : Bytes} {act : HS → HS} (he : (does h op n b act).2 = 0) : (does h op n b act).1 = act (logged h op n b) := by
  unfold does at he ⊢
  split at he
  · cases he
  · rename_i hd
    rw [if_neg hd]
    dsimp only at he ⊢
    split at he
    · cases he
    · rename_i hb
      rw [if_neg hb]
      split at he
      · cases he
      · rename_i hb2
        rw [if_neg hb2]
theorem does_back {h : HS} {op n : Int} {b : Bytes} (m : Int) : back (does h op n b id).1 m 0 = back h m 0 := by
  unfold does
  split
  · rfl
  · dsimp only
    split
    · rfl
    · split <;> rfl
theorem readR_back (h : HS) (n m : Int) : back (readR h n).2.2 m 0 = back h m 0 := by
  unfold readR
  split
  · dsimp only
    split
    · exact does_back m
    · exact does_back m
  · rfl
theorem writeR_zero {h : HS} {n : Int} {b : Bytes} (he : (writeR h n b).1 = 0) : (writeR h n b).2 = wrote n b (logged h 1 n b) := by
  unfold writeR at he ⊢
  split at he
  · rename_i ht
    rw [if_pos ht]
    split at he
    · rename_i hl
      rw [if_pos hl]
      exact does_zero he
    · cases he
  · cases he
theorem wrote_back (h : HS) (n : Int) (b : Bytes) (m : Int) : back (wrote n b (logged h 1 n b)) m 0 = if m = n then b else back h m 0 := by
  have e0 : (wrote n b (logged h 1 n b)).lay m = setF h.lay n (h.lay n ++ [b]) m := rfl
  have ez : (wrote n b (logged h 1 n b)).size = h.size := rfl
  unfold back
  rw [e0, ez]
  by_cases e : m = n
  · subst e
    rw [if_pos rfl]
    have e1 : setF h.lay m (h.lay m ++ [b]) m = h.lay m ++ [b] := by unfold setF; rw [if_pos rfl]
    simp only [e1, List.length_append, List.length_singleton]
    rw [if_pos (by omega), show (((h.lay m).length + 1 : Nat) : Int) - 1 - max 0 0 = ((h.lay m).length : Int) from by omega, Int.toNat_natCast, List.getD_eq_getElem?_getD, List.getElem?_append_right (Nat.le_refl _)]
    simp
  · rw [if_neg e]
    have e1 : setF h.lay n (h.lay n ++ [b]) m = h.lay m := by unfold setF; rw [if_neg e]
    simp only [e1]
theorem readR_zero {h : HS} (hm : Mild h) {n : Int} (he : (readR h n).2.1 = 0) : (readR h n).1 = back h n 0 := by
  unfold readR at he ⊢
  split at he
  · rename_i ht
    rw [if_pos ht]
    dsimp only at he ⊢
    split at he
    · rename_i h0
      rw [if_pos h0]
      exact spoilt_mild hm n
    · rename_i h0; exact absurd he h0
  · cases he
theorem readR_err (h : HS) (n : Int) : (readR h n).2.1 ≤ 1000 := by
  unfold readR
  split
  · dsimp only
    split
    · dsimp only; omega
    · dsimp only
      unfold does
      split
      · (dsimp only; omega)
      · dsimp only
        split
        · (dsimp only; omega)
        · split <;> (dsimp only; omega)
  · dsimp only; omega
def Lain (s : PS) (h : HS) (n : Int) (t : Bytes) : Prop := (s.last n = none → t = List.replicate s.text 0#8) ∧ ∀ pl, s.last n = some pl → back h n 0 = pgSealB s.key pl t
def Right (s : PS) (h : HS) (n : Int) (t : Bytes) : Prop := (∀ f, frOf s n = some f → f.text = t) ∧ (changedAt s n = false → Lain s h n t)
structure Sound (s : PS) (h : HS) (b : Int → Bytes) : Prop where
  ok : Ok s
  over : Over s h
  mild : Mild h
  len : ∀ n, (b n).length = s.text
  right : s.err = 0 → ∀ n, Right s h n (b n)
theorem frOf_cleaned (s : PS) (n m : Int) : (cleaned s.held n).find? (fun f => f.page == m) = (frOf s m).map fun f => if f.page = n then { f with is := 1 } else f := by
  unfold cleaned frOf
  rw [List.find?_map]
  congr 1
  congr 1
  funext f
  simp only [Function.comp]
  split <;> rfl
theorem frOf_wrote (s : PS) (n m : Int) : frOf (wroteP s n) m = (frOf s m).map fun f => if f.page = n then { f with is := 1 } else f := frOf_cleaned s n m
theorem changed_wrote (s : PS) (n m : Int) : changedAt (wroteP s n) m = if m = n then false else changedAt s m := by
  unfold changedAt
  rw [frOf_wrote]
  cases hf : frOf s m with
  | none => simp
  | some f =>
    have hp := (frOf_mem hf).2
    simp only [Option.map_some, Option.getD_some]
    rw [hp]
    split
    · rfl
    · rfl
theorem frOf_use (s : PS) (f : Fr) (m : Int) : frOf (useP s f) m = if m = f.page then some f else frOf s m := by
  unfold frOf useP
  dsimp only
  rw [List.find?_append]
  by_cases e : m = f.page
  · rw [if_pos e, List.find?_eq_none.2 (by
      intro x hx
      have := (List.mem_filter.1 hx).2
      simp only [Bool.not_eq_true', beq_eq_false_iff_ne, ne_eq] at this
      simp [e, this])]
    simp [e]
  · rw [if_neg e]
    have e1 : (s.held.filter fun g => !(g.page == f.page)).find? (fun g => g.page == m) = s.held.find? fun g => g.page == m := by
      rw [List.find?_filter]
      congr 1
      funext x
      by_cases hx : x.page = m
      · simp [hx, e]
      · simp [hx]
    rw [e1]
    cases s.held.find? (fun g => g.page == m) with
    | some x => rfl
    | none =>
      have : ¬ f.page = m := fun hh => e hh.symm
      simp [this]
theorem changed_use (s : PS) (f : Fr) (m : Int) : changedAt (useP s f) m = if m = f.page then f.is == 2 else changedAt s m := by
  unfold changedAt
  rw [frOf_use]
  split <;> rfl
theorem frOf_tail {s : PS} (hk : Ok s) {x : Fr} {r : List Fr} (hh : s.held = x :: r) (m : Int) : frOf { s with held := s.held.tail } m = if m = x.page then none else frOf s m := by
  unfold frOf
  dsimp only
  rw [hh, List.tail_cons]
  have hn := hk.once
  unfold numbers at hn
  rw [hh, List.map_cons, List.nodup_cons] at hn
  by_cases e : m = x.page
  · rw [if_pos e, List.find?_eq_none]
    intro f hf
    simp only [beq_iff_eq]
    intro e2
    exact hn.1 (by rw [← e, ← e2]; exact List.mem_map.2 ⟨f, hf, rfl⟩)
  · rw [if_neg e, List.find?_cons_of_neg (by simp only [beq_iff_eq]; exact fun hh => e hh.symm)]
theorem changed_tail {s : PS} (hk : Ok s) {x : Fr} {r : List Fr} (hh : s.held = x :: r) (m : Int) : changedAt { s with held := s.held.tail } m = if m = x.page then false else changedAt s m := by
  unfold changedAt
  rw [frOf_tail hk hh]
  split <;> rfl
section
variable {s : PS} {h : HS} {b : Int → Bytes}
theorem writeP_errs (s : PS) (h : HS) (n : Int) : (writeP s h n).1 ≠ 0 → (writeP s h n).1 ≤ 1000 ∧ (writeP s h n).2.1 = die s (writeP s h n).1 := by
  unfold writeP
  split
  · intro _; exact ⟨by dsimp only; omega, rfl⟩
  · dsimp only
    split
    · intro hh; exact absurd rfl hh
    · intro _
      refine ⟨?_, rfl⟩
      dsimp only
      unfold writeR
      split
      · split
        · unfold does
          split
          · (dsimp only; omega)
          · dsimp only
            split
            · (dsimp only; omega)
            · split <;> (dsimp only; omega)
        · (dsimp only; omega)
      · (dsimp only; omega)
theorem writeP_zero {n : Int} (he : (writeP s h n).1 = 0) : s.writes ≠ 4294967295 ∧ (writeR h n (boxOf s n)).1 = 0 ∧ writeP s h n = (0, wroteP s n, (writeR h n (boxOf s n)).2) := by
  unfold writeP at he ⊢
  split at he
  · cases he
  · rename_i hw
    rw [if_neg hw]
    dsimp only at he ⊢
    split at he
    · rename_i h0; rw [if_pos h0]; exact ⟨hw, h0, rfl⟩
    · rename_i h0; exact absurd he h0
theorem writeP_host (n : Int) : (writeP s h n).2.2 = h ∨ (writeP s h n).2.2 = (writeR h n (boxOf s n)).2 := by
  unfold writeP
  split
  · exact .inl rfl
  · dsimp only
    split
    · exact .inr rfl
    · exact .inr rfl
theorem does_same (h : HS) (op page : Int) (b : Bytes) (act : HS → HS) (ha : ∀ s, (act s).pages = s.pages ∧ (act s).size = s.size) : (does h op page b act).1.pages = h.pages ∧ (does h op page b act).1.size = h.size := by
  have h2 := ha (logged h op page b)
  unfold does
  split
  · exact ⟨rfl, rfl⟩
  · dsimp only
    split
    · exact ⟨rfl, rfl⟩
    · split
      · exact h2
      · exact h2
theorem writeR_same (h : HS) (page : Int) (b : Bytes) : (writeR h page b).2.pages = h.pages ∧ (writeR h page b).2.size = h.size := by
  unfold writeR
  split
  · split
    · exact does_same h 1 page b _ (fun _ => ⟨rfl, rfl⟩)
    · exact ⟨rfl, rfl⟩
  · exact ⟨rfl, rfl⟩
theorem readR_same (h : HS) (page : Int) : (readR h page).2.2.pages = h.pages ∧ (readR h page).2.2.size = h.size := by
  have d := does_same h 0 page [] id (fun _ => ⟨rfl, rfl⟩)
  unfold readR
  split
  · dsimp only
    split
    · exact d
    · exact d
  · exact ⟨rfl, rfl⟩
theorem Sound.dead (hs : Sound s h b) (e : Nat) (h0 : e ≠ 0) (he : e ≤ 1000) {h' : HS} (hm : Mild h') (hp : h'.pages = h.pages ∧ h'.size = h.size) : Sound (die s e) h' b :=
  ⟨ok_die hs.ok e he, ⟨hp.1.trans hs.over.pages, hp.2.trans hs.over.size⟩, hm, hs.len, fun hh => absurd hh h0⟩
theorem Sound.write (hs : Sound s h b) (h0 : s.err = 0) {n : Int} (hn : n ∈ numbers s) : Sound (writeP s h n).2.1 (writeP s h n).2.2 b := by
  by_cases he : (writeP s h n).1 = 0
  · obtain ⟨hw, hz, e⟩ := writeP_zero he
    rw [e, writeR_zero hz]
    have hwl := hs.ok.writes
    refine ⟨ok_wrote hs.ok n (by omega), ⟨hs.over.pages, hs.over.size⟩, mild_taken hs.mild _ rfl _ rfl, hs.len, fun _ m => ?_⟩
    obtain ⟨r1, r2⟩ := hs.right h0 m
    refine ⟨?_, ?_⟩
    · intro f hf
      rw [frOf_wrote] at hf
      obtain ⟨g, hg, rfl⟩ := Option.map_eq_some_iff.1 hf
      have := r1 g hg
      split
      · exact this
      · exact this
    · intro hc
      rw [changed_wrote] at hc
      by_cases e1 : m = n
      · subst e1
        obtain ⟨f, hf⟩ := frOf_of hn
        refine ⟨fun hh => ?_, fun pl hh => ?_⟩
        · have : (wroteP s m).last m = some (nextPl s m) := by unfold wroteP setF; simp
          rw [this] at hh; cases hh
        · have : (wroteP s m).last m = some (nextPl s m) := by unfold wroteP setF; simp
          rw [this] at hh
          obtain rfl := Option.some.inj hh
          dsimp only
          rw [wrote_back, if_pos rfl]
          show boxOf s m = _
          unfold boxOf
          have : textOf s m = b m := by unfold textOf; rw [hf]; exact r1 f hf
          rw [this]; rfl
      · rw [if_neg e1] at hc
        obtain ⟨l1, l2⟩ := r2 hc
        have hl : (wroteP s n).last m = s.last m := by unfold wroteP setF; simp [e1]
        refine ⟨fun hh => l1 (hl ▸ hh), fun pl hh => ?_⟩
        dsimp only
        rw [wrote_back, if_neg e1]
        exact l2 pl (hl ▸ hh)
  · obtain ⟨e1, e2⟩ := writeP_errs s h n he
    rw [e2]
    rcases writeP_host (s := s) (h := h) n with e|e
    · rw [e]; exact hs.dead _ he e1 hs.mild ⟨rfl, rfl⟩
    · rw [e]; exact hs.dead _ he e1 (writeR_mild hs.mild _ _) (writeR_same _ _ _)
theorem writeP_numbers (s : PS) (h : HS) (n : Int) : numbers (writeP s h n).2.1 = numbers s ∧ (writeP s h n).2.1.window = s.window ∧ (writeP s h n).2.1.pages = s.pages ∧ (writeP s h n).2.1.text = s.text ∧ (writeP s h n).2.1.key = s.key ∧ (writeP s h n).2.1.round = s.round := by
  by_cases he : (writeP s h n).1 = 0
  · obtain ⟨_, _, e⟩ := writeP_zero he
    rw [e]
    exact ⟨cleaned_pages _ _, rfl, rfl, rfl, rfl, rfl⟩
  · obtain ⟨_, e⟩ := writeP_errs s h n he
    rw [e]
    exact ⟨rfl, rfl, rfl, rfl, rfl, rfl⟩
theorem Sound.tail (hs : Sound s h b) (hc : ∀ x r, s.held = x :: r → changedAt s x.page = false) : Sound { s with held := s.held.tail } h b := by
  cases hh : s.held with
  | nil =>
    have : ({ s with held := ([] : List Fr).tail } : PS) = s := by rw [List.tail_nil, ← hh]
    rw [this]; exact hs
  | cons x r =>
    rw [← hh]
    refine ⟨ok_tail hs.ok, ⟨hs.over.pages, hs.over.size⟩, hs.mild, hs.len, fun h0 m => ?_⟩
    obtain ⟨r1, r2⟩ := hs.right h0 m
    refine ⟨fun f hf => ?_, fun hcm => ?_⟩
    · rw [frOf_tail hs.ok hh] at hf
      split at hf
      · cases hf
      · exact r1 f hf
    · rw [changed_tail hs.ok hh] at hcm
      by_cases e : m = x.page
      · subst e
        exact r2 (hc x r hh)
      · rw [if_neg e] at hcm
        exact r2 hcm
theorem Sound.room (hs : Sound s h b) (h0 : s.err = 0) : Sound (roomP s h).2.1 (roomP s h).2.2 b ∧ ((roomP s h).1 = 0 → (roomP s h).2.1.err = 0) ∧ ((roomP s h).1 ≠ 0 → (roomP s h).2.1.err = (roomP s h).1) := by
  unfold roomP
  split
  · exact ⟨hs, fun _ => h0, fun hh => absurd rfl hh⟩
  · rename_i hl
    dsimp only
    have hw0 := hs.ok.w0
    obtain ⟨x, r, hh⟩ : ∃ x r, s.held = x :: r := by
      cases hh : s.held with
      | nil => rw [hh] at hl; simp at hl; omega
      | cons x r => exact ⟨x, r, rfl⟩
    have hd : (s.held.head?.map Fr.page).getD 0 = x.page := by rw [hh]; rfl
    rw [hd]
    have hx : x.page ∈ numbers s := by unfold numbers; rw [hh]; simp
    by_cases hc : changedAt s x.page = true
    · rw [if_pos hc]
      have hw := hs.write h0 hx
      split
      · rename_i hz
        obtain ⟨_, hz2, e⟩ := writeP_zero hz
        refine ⟨hw.tail ?_, fun _ => ?_, fun hh => absurd rfl hh⟩
        · intro y t ht
          have e2 : numbers (writeP s h x.page).2.1 = numbers s := (writeP_numbers s h x.page).1
          unfold numbers at e2
          rw [ht, hh, List.map_cons, List.map_cons] at e2
          obtain ⟨e3, _⟩ := List.cons.inj e2
          rw [e3, e]
          dsimp only
          rw [changed_wrote, if_pos rfl]
        · rw [e]; exact h0
      · rename_i hz
        refine ⟨hw, fun hh => absurd hh hz, fun _ => ?_⟩
        rw [(writeP_errs s h x.page hz).2]; rfl
    · rw [if_neg hc]
      refine ⟨?_, fun _ => h0, fun hh => absurd rfl hh⟩
      refine hs.tail ?_
      intro y t ht
      rw [hh] at ht
      obtain ⟨e3, _⟩ := List.cons.inj ht
      rw [← e3]
      simpa using hc
theorem Sound.use (hs : Sound s h b) (f : Fr) (b' : Int → Bytes) (hf : f.text = b' f.page) (hb : ∀ m, m ≠ f.page → b' m = b m) (hlen : f.text.length = s.text) (hr : (frOf s f.page).isSome = true ∨ s.held.length < s.window) (hp : 0 ≤ f.page ∧ f.page < s.pages) (hi : f.is ≤ 2)
    (hl : s.err = 0 → f.is ≠ 2 → Lain s h f.page f.text) : Sound (useP s f) h b' := by
  refine ⟨ok_use hs.ok hr hp hlen hi, ⟨hs.over.pages, hs.over.size⟩, hs.mild, fun n => ?_, fun h0 m => ?_⟩
  · by_cases e : n = f.page
    · rw [e, ← hf]; exact hlen
    · rw [hb n e]; exact hs.len n
  · obtain ⟨r1, r2⟩ := hs.right h0 m
    refine ⟨fun g hg => ?_, fun hc => ?_⟩
    · rw [frOf_use] at hg
      split at hg
      · rename_i e
        obtain rfl := Option.some.inj hg
        rw [e]; exact hf
      · rename_i e
        rw [hb m e]; exact r1 g hg
    · rw [changed_use] at hc
      split at hc
      · rename_i e
        rw [e, ← hf]
        exact hl h0 (by simpa using hc)
      · rename_i e
        rw [hb m e]; exact r2 hc
theorem Sound.read (hs : Sound s h b) (n : Int) : Sound s (readR h n).2.2 b := by
  obtain ⟨p1, p2⟩ := readR_same h n
  refine ⟨hs.ok, ⟨p1.trans hs.over.pages, p2.trans hs.over.size⟩, readR_mild hs.mild n, hs.len, fun h0 m => ?_⟩
  obtain ⟨r1, r2⟩ := hs.right h0 m
  refine ⟨r1, fun hc => ?_⟩
  obtain ⟨l1, l2⟩ := r2 hc
  exact ⟨l1, fun pl hh => by rw [readR_back]; exact l2 pl hh⟩
theorem changed_no {s : PS} {n : Int} (hn : n ∉ numbers s) : changedAt s n = false := by
  unfold changedAt
  cases hf : frOf s n with
  | none => rfl
  | some f => exact absurd (by obtain ⟨h1, h2⟩ := frOf_mem hf; rw [← h2]; exact List.mem_map.2 ⟨f, h1, rfl⟩) hn
theorem Sound.fetch (hs : Sound s h b) (h0 : s.err = 0) {n : Int} (hn : n ∉ numbers s) (hw : s.held.length < s.window) (hp : 0 ≤ n ∧ n < s.pages) :
    ∃ e, (fetchP s h n).1 = (if e = 0 then b n else [], e) ∧ Sound (fetchP s h n).2.1 (fetchP s h n).2.2 b ∧ (fetchP s h n).2.1.err = e := by
  obtain ⟨l1, l2⟩ := (hs.right h0 n).2 (changed_no hn)
  have hbl := hs.len n
  have ht1 := hs.ok.t1
  unfold fetchP
  cases hl : s.last n with
  | none =>
    dsimp only
    have e := l1 hl
    refine ⟨0, by rw [if_pos rfl, e], ?_, h0⟩
    exact hs.use _ b (by dsimp only; exact e.symm) (fun _ _ => rfl) (by simp) (.inr hw) hp (by dsimp only; omega) (fun _ _ => ⟨fun _ => rfl, fun pl hh => (by dsimp only at hh; rw [hl] at hh; cases hh)⟩)
  | some pl =>
    dsimp only
    have hs' := hs.read n
    by_cases hz : (readR h n).2.1 = 0
    · rw [if_pos hz, readR_zero hs.mild hz, l2 pl hl, pg_back _ _ _ (by omega)]
      refine ⟨0, rfl, ?_, h0⟩
      refine hs'.use _ b (by dsimp only) (fun _ _ => rfl) hbl (.inr hw) hp (by dsimp only; omega) (fun _ _ => ⟨fun hh => (by dsimp only at hh; rw [hl] at hh; cases hh), fun pl' hh => ?_⟩)
      dsimp only at hh ⊢
      rw [hl] at hh
      obtain rfl := Option.some.inj hh
      rw [readR_back]; exact l2 pl hl
    · rw [if_neg hz]
      have he := readR_err h n
      refine ⟨(readR h n).2.1, by rw [if_neg hz], hs.dead _ hz he (readR_mild hs.mild n) (readR_same h n), rfl⟩
theorem roomP_leaves (hk : Ok s) : (∀ n, n ∉ numbers s → n ∉ numbers (roomP s h).2.1) ∧ (roomP s h).2.1.window = s.window ∧ (roomP s h).2.1.pages = s.pages ∧ (roomP s h).2.1.text = s.text ∧ ((roomP s h).1 = 0 → (roomP s h).2.1.held.length < s.window) := by
  have tl : ∀ (x : PS) n, n ∉ numbers x → n ∉ numbers { x with held := x.held.tail } := fun x n hn hh => hn (by
    unfold numbers at hh ⊢
    obtain ⟨f, hf, e⟩ := List.mem_map.1 hh
    exact List.mem_map.2 ⟨f, List.mem_of_mem_tail hf, e⟩)
  have hw0 := hk.w0
  have hm := hk.many
  unfold roomP
  split
  · rename_i hl; exact ⟨fun _ h => h, rfl, rfl, rfl, fun _ => hl⟩
  · rename_i hl
    dsimp only
    obtain ⟨w1, w2, w3, w4, w5⟩ := writeP_numbers s h ((s.held.head?.map Fr.page).getD 0)
    have hlen : (writeP s h ((s.held.head?.map Fr.page).getD 0)).2.1.held.length = s.held.length := by
      have := congrArg List.length w1
      unfold numbers at this
      rwa [List.length_map, List.length_map] at this
    split
    · split
      · refine ⟨fun n hn => tl _ n (by rw [w1]; exact hn), w2, w3, w4, fun _ => ?_⟩
        show (writeP s h _).2.1.held.tail.length < _
        rw [List.length_tail, hlen]; omega
      · rename_i h0
        exact ⟨fun n hn => by rw [w1]; exact hn, w2, w3, w4, fun hh => absurd hh h0⟩
    · refine ⟨fun n hn => tl s n hn, rfl, rfl, rfl, fun _ => ?_⟩
      show s.held.tail.length < _
      rw [List.length_tail]; omega
theorem right_zero {n : Int} (h : rightP s n = 0) : s.err = 0 ∧ 0 ≤ n ∧ n < s.pages := by
  unfold rightP at h
  split at h
  · rename_i he; exact absurd h he
  · rename_i he
    split at h
    · cases h
    · rename_i hp; exact ⟨by omega, by omega, by omega⟩
theorem Sound.load (hs : Sound s h b) (n : Int) : ∃ e, (loadP s h n).1 = (if e = 0 then b n else [], e) ∧ Sound (loadP s h n).2.1 (loadP s h n).2.2 b ∧ (e = 0 → (loadP s h n).2.1.err = 0) ∧ (rightP s n = 0 → (loadP s h n).2.1.err = e) ∧ (rightP s n ≠ 0 → e = rightP s n) := by
  unfold loadP
  by_cases hr : rightP s n = 0
  · rw [if_pos hr]
    obtain ⟨h0, hp⟩ := right_zero hr
    cases hf : frOf s n with
    | some f =>
      dsimp only
      obtain ⟨f1, f2⟩ := frOf_mem hf
      obtain ⟨r1, r2⟩ := hs.right h0 n
      have htx := r1 f hf
      refine ⟨0, by rw [if_pos rfl, htx], ?_, fun _ => h0, fun _ => h0, fun hh => absurd hr hh⟩
      subst f2
      refine hs.use f b htx (fun _ _ => rfl) (hs.ok.len f f1) (.inl (by rw [hf]; rfl)) hp (hs.ok.is f f1) (fun _ hi => ?_)
      rw [htx]
      refine r2 ?_
      unfold changedAt
      rw [hf]
      simpa using hi
    | none =>
      dsimp only
      have hn := frOf_none hf
      obtain ⟨q1, q2, q3⟩ := hs.room h0
      obtain ⟨v1, v2, v3, v4, v5⟩ := roomP_leaves (h := h) hs.ok
      by_cases hz : (roomP s h).1 = 0
      · rw [if_pos hz]
        obtain ⟨e, e1, e2, e3⟩ := q1.fetch (q2 hz) (v1 n hn) (by rw [v2]; exact v5 hz) (by rw [v3]; exact hp)
        exact ⟨e, e1, e2, fun hh => e3.trans hh, fun _ => e3, fun hh => absurd hr hh⟩
      · rw [if_neg hz]
        exact ⟨(roomP s h).1, by rw [if_neg hz], q1, fun hh => absurd hh hz, fun _ => q3 hz, fun hh => absurd hr hh⟩
  · rw [if_neg hr]
    exact ⟨rightP s n, by rw [if_neg hr], hs, fun hh => absurd hh hr, fun hh => absurd hh hr, fun _ => rfl⟩
theorem Sound.save (hs : Sound s h b) (n : Int) (t : Bytes) : Sound (saveP s h n t).2.1 (saveP s h n t).2.2 (if (saveP s h n t).1 = 0 then setF b n t else b) ∧ ((saveP s h n t).1 = 0 → t.length = s.text ∧ rightP s n = 0 ∧ (saveP s h n t).2.1.err = 0) ∧ (rightP s n = 0 → t.length = s.text → (saveP s h n t).2.1.err = (saveP s h n t).1) ∧ (rightP s n ≠ 0 → (saveP s h n t).1 = rightP s n) ∧ (rightP s n = 0 → t.length ≠ s.text → (saveP s h n t).1 = 4) := by
  unfold saveP
  by_cases hr : rightP s n = 0
  · rw [if_pos hr]
    obtain ⟨h0, hp⟩ := right_zero hr
    by_cases ht : t.length = s.text
    · rw [if_pos ht]
      have put : ∀ (s1 : PS) (h1 : HS), Sound s1 h1 b → s1.text = s.text → s1.pages = s.pages → ((frOf s1 n).isSome = true ∨ s1.held.length < s1.window) → Sound (useP s1 ⟨n, t, 2⟩) h1 (setF b n t) := by
        intro s1 h1 hs1 e1 e2 e3
        refine hs1.use ⟨n, t, 2⟩ _ (by unfold setF; simp) (fun m hm => by unfold setF; rw [if_neg hm]) (by rw [e1]; exact ht) e3 (by rw [e2]; exact hp) (Nat.le_refl _) (fun _ hh => absurd rfl hh)
      cases hf : frOf s n with
      | some f =>
        dsimp only
        rw [if_pos rfl]
        exact ⟨put s h hs rfl rfl (.inl (by rw [hf]; rfl)), fun _ => ⟨ht, hr, h0⟩, fun _ _ => h0, fun hh => absurd hr hh, fun _ hh => absurd ht hh⟩
      | none =>
        dsimp only
        have hn := frOf_none hf
        obtain ⟨q1, q2, q3⟩ := hs.room h0
        obtain ⟨v1, v2, v3, v4, v5⟩ := roomP_leaves (h := h) hs.ok
        by_cases hz : (roomP s h).1 = 0
        · simp only [if_pos hz, if_true]
          exact ⟨put _ _ q1 v4 v3 (.inr (by rw [v2]; exact v5 hz)), fun _ => ⟨ht, hr, q2 hz⟩, fun _ _ => q2 hz, fun hh => absurd hr hh, fun _ hh => absurd ht hh⟩
        · simp only [if_neg hz]
          exact ⟨q1, fun hh => absurd hh hz, fun _ _ => q3 hz, fun hh => absurd hr hh, fun _ hh => absurd ht hh⟩
    · rw [if_neg ht]
      dsimp only
      rw [if_neg (by omega)]
      exact ⟨hs, fun hh => by omega, fun _ hh => absurd hh ht, fun hh => absurd hr hh, fun _ _ => rfl⟩
  · rw [if_neg hr]
    dsimp only
    rw [if_neg hr]
    exact ⟨hs, fun hh => absurd hh hr, fun hh => absurd hh hr, fun _ => rfl, fun hh => absurd hh hr⟩
theorem sound_fresh {key : Bytes} {round : BitVec 64} {window : Nat} {pages : Int} {text : Nat} (hk : Ok (freshP key round window pages text)) {h : HS} (hp : h.pages = pages) (hz : h.size = text + 28) (hm : Mild h) : Sound (freshP key round window pages text) h (fun _ => List.replicate text 0#8) :=
  ⟨hk, ⟨hp, hz⟩, hm, fun _ => by simp [freshP], fun _ n => ⟨fun f hf => (by unfold frOf freshP at hf; cases hf), fun _ => ⟨fun _ => rfl, fun pl hh => by cases hh⟩⟩⟩
end
end Go.Sl.PagerS
namespace Go.Sl.PagerS
open Go Go.Sl Go.Sl.HostS
attribute [local irreducible] pgSealB pgOpenR
theorem does_ops (h : HS) (op page : Int) (b : Bytes) (act : HS → HS) (ha : ∀ s, (act s).ops = s.ops) : (does h op page b act).1.ops ≤ h.ops + 1 := by
  have h2 := ha (logged h op page b)
  unfold does
  split
  · exact Nat.le_succ _
  · dsimp only
    split
    · exact Nat.le_refl _
    · split
      · exact Nat.le_of_eq h2
      · exact Nat.le_of_eq h2
theorem writeR_ops (h : HS) (page : Int) (b : Bytes) : (writeR h page b).2.ops ≤ h.ops + 1 := by
  unfold writeR
  split
  · split
    · exact does_ops h 1 page b _ fun _ => rfl
    · exact Nat.le_succ _
  · exact Nat.le_succ _
theorem readR_ops (h : HS) (page : Int) : (readR h page).2.2.ops ≤ h.ops + 1 := by
  have d := does_ops h 0 page [] id fun _ => rfl
  unfold readR
  split
  · dsimp only
    split <;> exact d
  · exact Nat.le_succ _
structure Near (k m : Nat) (s : PS) (h : HS) (s' : PS) (h' : HS) : Prop where
  ops : h'.ops ≤ h.ops + k
  writes : s'.writes ≤ s.writes + m
  pages : h'.pages = h.pages
  size : h'.size = h.size
  spages : s'.pages = s.pages
  text : s'.text = s.text
  key : s'.key = s.key
  round : s'.round = s.round
  window : s'.window = s.window
theorem Near.refl (k m : Nat) (s : PS) (h : HS) : Near k m s h s h := ⟨Nat.le_add_right _ _, Nat.le_add_right _ _, rfl, rfl, rfl, rfl, rfl, rfl, rfl⟩
theorem Near.trans {k m k' m' k2 m2 : Nat} {s s' s2 : PS} {h h' h2 : HS} (a : Near k m s h s' h') (b : Near k' m' s' h' s2 h2) (hk : k + k' ≤ k2) (hm : m + m' ≤ m2) : Near k2 m2 s h s2 h2 :=
  ⟨by have := a.ops; have := b.ops; omega, by have := a.writes; have := b.writes; omega, b.pages.trans a.pages, b.size.trans a.size, b.spages.trans a.spages, b.text.trans a.text, b.key.trans a.key, b.round.trans a.round, b.window.trans a.window⟩
theorem Near.over {k m : Nat} {s s' : PS} {h h' : HS} (a : Near k m s h s' h') (ho : Over s h) : Over s' h' := ⟨a.pages.trans (ho.pages.trans a.spages.symm), by rw [a.size, ho.size, a.text]⟩
theorem near_write (s : PS) (h : HS) (n : Int) : Near 1 1 s h (writeP s h n).2.1 (writeP s h n).2.2 := by
  have w1 := writeR_same h n (boxOf s n)
  have w2 := writeR_ops h n (boxOf s n)
  unfold writeP
  split
  · exact ⟨Nat.le_add_right _ _, Nat.le_add_right _ _, rfl, rfl, rfl, rfl, rfl, rfl, rfl⟩
  · dsimp only
    split
    · exact ⟨w2, Nat.le_refl _, w1.1, w1.2, rfl, rfl, rfl, rfl, rfl⟩
    · exact ⟨w2, Nat.le_add_right _ _, w1.1, w1.2, rfl, rfl, rfl, rfl, rfl⟩
theorem near_held {k m : Nat} {s : PS} {h : HS} {s' : PS} {h' : HS} (a : Near k m s h s' h') (l : List Fr) (n : Nat) : Near k m s h { s' with held := l, most := n } h' := ⟨a.ops, a.writes, a.pages, a.size, a.spages, a.text, a.key, a.round, a.window⟩
theorem near_room (s : PS) (h : HS) : Near 1 1 s h (roomP s h).2.1 (roomP s h).2.2 := by
  unfold roomP
  split
  · exact Near.refl ..
  · dsimp only
    have w := near_write s h ((s.held.head?.map Fr.page).getD 0)
    split
    · split
      · exact near_held w _ _
      · exact w
    · exact near_held (Near.refl 1 1 s h) _ _
theorem near_use {k m : Nat} {s : PS} {h : HS} {s' : PS} {h' : HS} (a : Near k m s h s' h') (f : Fr) : Near k m s h (useP s' f) h' := near_held a _ _
theorem near_fetch (s : PS) (h : HS) (n : Int) : Near 1 0 s h (fetchP s h n).2.1 (fetchP s h n).2.2 := by
  have r1 := readR_same h n
  have r2 := readR_ops h n
  have r : Near 1 0 s h s (readR h n).2.2 := ⟨r2, Nat.le_refl _, r1.1, r1.2, rfl, rfl, rfl, rfl, rfl⟩
  unfold fetchP
  split
  · dsimp only
    split
    · split
      · exact near_use r _
      · exact ⟨r.ops, r.writes, r.pages, r.size, rfl, rfl, rfl, rfl, rfl⟩
    · exact ⟨r.ops, r.writes, r.pages, r.size, rfl, rfl, rfl, rfl, rfl⟩
  · exact near_use (Near.refl 1 0 s h) _
theorem near_load (s : PS) (h : HS) (n : Int) : Near 2 1 s h (loadP s h n).2.1 (loadP s h n).2.2 := by
  unfold loadP
  split
  · split
    · exact near_use (Near.refl 2 1 s h) _
    · have a := near_room s h
      have b := near_fetch (roomP s h).2.1 (roomP s h).2.2 n
      dsimp only
      split
      · exact a.trans b (by omega) (by omega)
      · exact a.trans (Near.refl 0 0 _ _) (by omega) (by omega)
  · exact Near.refl ..
theorem near_save (s : PS) (h : HS) (n : Int) (t : Bytes) : Near 1 1 s h (saveP s h n t).2.1 (saveP s h n t).2.2 := by
  unfold saveP
  split
  · split
    · split
      · exact near_use (Near.refl 1 1 s h) _
      · have a := near_room s h
        dsimp only
        split
        · exact near_use a _
        · exact a
    · exact Near.refl ..
  · exact Near.refl ..
structure Calm (h : HS) : Prop where
  up : h.down = false
  calm : ∀ k, h.coming k = []
theorem does_calm {h : HS} (hc : Calm h) (op n : Int) (b : Bytes) (act : HS → HS) : does h op n b act = (act (logged h op n b), 0) := by
  unfold does
  rw [if_neg (by rw [hc.up]; simp), hc.calm h.ops]
  rfl
theorem calm_logged {h : HS} (hc : Calm h) (op n : Int) (b : Bytes) : Calm (logged h op n b) := ⟨hc.up, fun k => by
  show setF h.coming h.ops [] k = []
  unfold setF
  split
  · rfl
  · exact hc.calm k⟩
theorem writeR_calm {h : HS} (hc : Calm h) {n : Int} {b : Bytes} (ht : there h n) (hl : b.length = h.size) : writeR h n b = (0, wrote n b (logged h 1 n b)) := by
  unfold writeR
  rw [if_pos ht, if_pos hl, does_calm hc]
theorem readR_calm {h : HS} (hc : Calm h) {n : Int} (ht : there h n) : readR h n = (back h n 0, 0, logged h 0 n []) := by
  unfold readR
  rw [if_pos ht, does_calm hc]
  dsimp only
  rw [if_pos rfl, hc.calm]; rfl
structure Quiet (s : PS) (h : HS) (b : Int → Bytes) : Prop where
  sound : Sound s h b
  calm : Calm h
  err : s.err = 0
section
variable {s : PS} {h : HS} {b : Int → Bytes}
theorem Quiet.write (hq : Quiet s h b) (hw : s.writes < 4294967295) {n : Int} (hn : n ∈ numbers s) : (writeP s h n).1 = 0 ∧ Quiet (writeP s h n).2.1 (writeP s h n).2.2 b := by
  obtain ⟨f, hf⟩ := frOf_of hn
  obtain ⟨f1, f2⟩ := frOf_mem hf
  obtain ⟨p1, p2⟩ := hq.sound.ok.there f f1
  have ht : there h n := ⟨by omega, by rw [hq.sound.over.pages]; omega⟩
  have hl : (boxOf s n).length = h.size := by
    unfold boxOf textOf
    rw [pgSealB_len, hf, hq.sound.over.size]
    have := hq.sound.ok.len f f1
    simp [this]
  have hr := writeR_calm hq.calm ht hl
  have h0 : (writeP s h n).1 = 0 := by
    unfold writeP
    rw [if_neg (by omega), hr]
    rfl
  obtain ⟨_, hz, e⟩ := writeP_zero h0
  refine ⟨h0, hq.sound.write hq.err hn, ?_, ?_⟩
  · rw [e, hr]
    have := calm_logged hq.calm 1 n (boxOf s n)
    exact ⟨this.up, this.calm⟩
  · rw [e]; exact hq.err
theorem Quiet.room (hq : Quiet s h b) (hw : s.writes < 4294967295) : (roomP s h).1 = 0 ∧ Quiet (roomP s h).2.1 (roomP s h).2.2 b := by
  have key : (roomP s h).1 = 0 ∧ Calm (roomP s h).2.2 := by
    unfold roomP
    split
    · exact ⟨rfl, hq.calm⟩
    · rename_i hl
      dsimp only
      split
      · rename_i hc
        have hn : (s.held.head?.map Fr.page).getD 0 ∈ numbers s := by
          by_cases hh : (s.held.head?.map Fr.page).getD 0 ∈ numbers s
          · exact hh
          · rw [changed_no hh] at hc; cases hc
        obtain ⟨w1, w2⟩ := hq.write hw hn
        rw [if_pos w1]
        exact ⟨rfl, w2.calm⟩
      · exact ⟨rfl, hq.calm⟩
  obtain ⟨q1, q2, q3⟩ := hq.sound.room hq.err
  exact ⟨key.1, q1, key.2, q2 key.1⟩
theorem Quiet.load (hq : Quiet s h b) (hw : s.writes < 4294967295) {n : Int} (h0 : 0 ≤ n) (h1 : n < s.pages) : (loadP s h n).1 = (b n, 0) ∧ Quiet (loadP s h n).2.1 (loadP s h n).2.2 b := by
  have hr : rightP s n = 0 := by
    unfold rightP
    rw [if_neg (by rw [hq.err]; simp), if_neg (by omega)]
  have key : (loadP s h n).1.2 = 0 ∧ Calm (loadP s h n).2.2 := by
    unfold loadP
    rw [if_pos hr]
    cases hf : frOf s n with
    | some f => exact ⟨rfl, hq.calm⟩
    | none =>
      dsimp only
      obtain ⟨r1, r2⟩ := hq.room hw
      obtain ⟨v1, v2, v3, v4, v5⟩ := roomP_leaves (h := h) hq.sound.ok
      rw [if_pos r1]
      have hn1 := v1 n (frOf_none hf)
      have hl1 := v5 r1
      rw [← v2] at hl1
      have hp1 : n < (roomP s h).2.1.pages := by rw [v3]; exact h1
      generalize (roomP s h).2.1 = s1 at *
      generalize (roomP s h).2.2 = h1 at *
      obtain ⟨e, e1, e2, e3⟩ := r2.sound.fetch r2.err hn1 hl1 ⟨h0, hp1⟩
      have ht : there h1 n := ⟨h0, by rw [r2.sound.over.pages]; exact hp1⟩
      have hrd := readR_calm r2.calm ht
      obtain ⟨_, l2⟩ := (r2.sound.right r2.err n).2 (changed_no hn1)
      have hbl := r2.sound.len n
      have ht1 := r2.sound.ok.t1
      unfold fetchP
      cases hl : s1.last n with
      | none => exact ⟨rfl, r2.calm⟩
      | some pl =>
        dsimp only
        rw [hrd]
        dsimp only
        rw [if_pos rfl, l2 pl hl, pg_back _ _ _ (by omega)]
        exact ⟨rfl, calm_logged r2.calm _ _ _⟩
  obtain ⟨e, e1, e2, e3, e4, e5⟩ := hq.sound.load n
  have h2 : (loadP s h n).1.2 = e := by rw [e1]
  rw [key.1] at h2
  subst h2
  exact ⟨by rw [e1, if_pos rfl], e2, key.2, e3 rfl⟩
theorem Quiet.save (hq : Quiet s h b) (hw : s.writes < 4294967295) {n : Int} (h0 : 0 ≤ n) (h1 : n < s.pages) {t : Bytes} (ht : t.length = s.text) : (saveP s h n t).1 = 0 ∧ Quiet (saveP s h n t).2.1 (saveP s h n t).2.2 (setF b n t) := by
  have hr : rightP s n = 0 := by
    unfold rightP
    rw [if_neg (by rw [hq.err]; simp), if_neg (by omega)]
  have key : (saveP s h n t).1 = 0 ∧ Calm (saveP s h n t).2.2 := by
    unfold saveP
    rw [if_pos hr, if_pos ht]
    cases hf : frOf s n with
    | some f => exact ⟨rfl, hq.calm⟩
    | none =>
      dsimp only
      obtain ⟨r1, r2⟩ := hq.room hw
      rw [if_pos r1]
      exact ⟨rfl, r2.calm⟩
  obtain ⟨q1, q2, q3, q4, q5⟩ := hq.sound.save n t
  rw [if_pos key.1] at q1
  exact ⟨key.1, q1, key.2, (q2 key.1).2.2⟩
theorem quiet_fresh {key : Bytes} {round : BitVec 64} {window : Nat} {pages : Int} {text : Nat} (hk : Ok (freshP key round window pages text)) {h : HS} (hp : h.pages = pages) (hz : h.size = text + 28) (hc : Calm h) : Quiet (freshP key round window pages text) h (fun _ => List.replicate text 0#8) :=
  ⟨sound_fresh hk hp hz (fun k f hf => by rw [hc.calm k] at hf; cases hf), hc, rfl⟩
end
theorem calm_fresh (pages : Int) (size : Nat) : Calm (fresh pages size []) := ⟨rfl, fun _ => rfl⟩
end Go.Sl.PagerS
namespace Go.Sl.PagerS
open Go Go.Sl Go.Sl.HostS
attribute [local irreducible] pgSealB pgOpenR
def chg (s : PS) : Nat := s.held.countP fun f => f.is == 2
section
variable {s : PS} {h : HS}
theorem room_err (hk : Ok s) (h0 : s.err = 0) (hz : (roomP s h).1 = 0) : (roomP s h).2.1.err = 0 := by
  unfold roomP at hz ⊢
  split
  · exact h0
  · rename_i hl
    rw [if_neg hl] at hz
    dsimp only at hz ⊢
    split
    · rename_i hc
      rw [if_pos hc] at hz
      split
      · rename_i hw
        obtain ⟨_, _, e⟩ := writeP_zero hw
        rw [e]; exact h0
      · rename_i hw; rw [if_neg hw] at hz; exact absurd hz hw
    · exact h0
end
end Go.Sl.PagerS
namespace Go.Sl.PagerS
open Go Go.Sl Go.Sl.HostS
attribute [local irreducible] pgSealB pgOpenR
def wrs (l : List HostS.Touch) : Nat := l.countP fun t => t.op == 1
def Entry (r : BitVec 64) (pages : Int) (size : Nat) (was : List HostS.Touch) (t : HostS.Touch) : Prop :=
  t.len = size ∧ 0 ≤ t.page ∧ t.page < pages ∧ ((t.op = 0 ∧ t.head = List.replicate 12 0#8 ∧ ∃ u ∈ was, u.op = 1 ∧ u.page = t.page) ∨ (t.op = 1 ∧ t.head = leB r 8 ++ leB (BitVec.ofNat 32 (wrs was)) 4))
def Heads (r : BitVec 64) (pages : Int) (size : Nat) (l : List HostS.Touch) : Prop := ∀ i (hi : i < l.length), Entry r pages size (l.take i) l[i]
theorem Heads.snoc {r : BitVec 64} {pages : Int} {size : Nat} {l : List HostS.Touch} {t : HostS.Touch} (h : Heads r pages size l) (ht : Entry r pages size l t) : Heads r pages size (l ++ [t]) := by
  intro i hi
  by_cases e : i < l.length
  · rw [List.getElem_append_left e, List.take_append_of_le_length (Nat.le_of_lt e)]
    exact h i e
  · have e : i = l.length := by rw [List.length_append, List.length_singleton] at hi; omega
    subst e
    rw [List.getElem_append_right (Nat.le_refl _), List.take_left]
    simpa using ht
structure HI (s : PS) (h : HS) : Prop where
  heads : Heads s.round s.pages h.size h.log
  now : s.err = 0 → wrs h.log = s.writes
  then_ : wrs h.log = s.writes ∨ (wrs h.log = s.writes + 1 ∧ s.err = 110)
  last : ∀ n pl, s.last n = some pl → ∃ u ∈ h.log, u.op = 1 ∧ u.page = n
  over : Over s h
theorem does_log (h : HS) (op n : Int) (b : Bytes) (act : HS → HS) (ha : ∀ g, (act g).log = g.log) : ((does h op n b act).1.log = h.log ∧ (does h op n b act).2 = 110) ∨ ((does h op n b act).1.log = h.log ++ [touchOf h op n b] ∧ ((does h op n b act).2 = 0 ∨ (does h op n b act).2 = 110)) := by
  unfold does
  split
  · exact .inl ⟨rfl, rfl⟩
  · dsimp only
    split
    · exact .inl ⟨rfl, rfl⟩
    · split
      · exact .inr ⟨ha _, .inr rfl⟩
      · exact .inr ⟨ha _, .inl rfl⟩
theorem headOf_box (key : Bytes) (p : Plc) (t : Bytes) : headOf (pgSealB key p t) = headB p := by
  unfold headOf
  rw [pgSeal_head, pgSealB_len, show 12 - (t.length + 28) = 0 by omega]; simp
section
variable {s : PS} {h : HS}
theorem HI.there (hi : HI s h) {n : Int} (h0 : 0 ≤ n) (h1 : n < s.pages) : there h n := ⟨h0, by rw [hi.over.pages]; exact h1⟩
theorem box_len (hk : Ok s) {n : Int} (hn : n ∈ numbers s) : (boxOf s n).length = s.text + 28 ∧ 0 ≤ n ∧ n < s.pages := by
  obtain ⟨f, hf⟩ := frOf_of hn
  obtain ⟨f1, f2⟩ := frOf_mem hf
  have := hk.len f f1
  have hp := hk.there f f1
  refine ⟨?_, by omega, by omega⟩
  unfold boxOf textOf
  rw [pgSealB_len, hf]
  simp [this]
theorem HI.write (hi : HI s h) (hk : Ok s) (h0 : s.err = 0) {n : Int} (hn : n ∈ numbers s) : HI (writeP s h n).2.1 (writeP s h n).2.2 := by
  obtain ⟨b1, b2, b3⟩ := box_len hk hn
  have ht := hi.there b2 b3
  have hnow := hi.now h0
  have ho' := (near_write s h n).over hi.over
  have hw : writeR h n (boxOf s n) = ((does h 1 n (boxOf s n) (wrote n (boxOf s n))).2, (does h 1 n (boxOf s n) (wrote n (boxOf s n))).1) := by
    unfold writeR
    rw [if_pos ht, if_pos (b1.trans hi.over.size.symm)]
  have htouch : touchOf h 1 n (boxOf s n) = ⟨1, n, h.size, headB (nextPl s n)⟩ := by
    unfold touchOf
    rw [if_pos rfl]
    unfold boxOf
    rw [headOf_box]
  have hent : Entry s.round s.pages h.size h.log (touchOf h 1 n (boxOf s n)) := by
    rw [htouch]
    refine ⟨rfl, b2, b3, .inr ⟨rfl, ?_⟩⟩
    rw [hnow]; rfl
  have hlw : ∀ l, l = h.log ++ [touchOf h 1 n (boxOf s n)] → wrs l = wrs h.log + 1 := by
    intro l hl
    rw [hl, htouch]
    unfold wrs
    rw [List.countP_append]
    simp
  have hz : (writeP s h n).2.2.size = h.size := (near_write s h n).size
  have hlg := does_log h 1 n (boxOf s n) (wrote n (boxOf s n)) fun _ => rfl
  by_cases he : (writeP s h n).1 = 0
  · obtain ⟨hwn, hwz, e⟩ := writeP_zero he
    rw [hw] at hwz
    dsimp only at hwz
    have hl : (writeP s h n).2.2.log = h.log ++ [touchOf h 1 n (boxOf s n)] := by
      rw [e, hw]
      rcases hlg with ⟨_, hx⟩|⟨hx, _⟩
      · rw [hwz] at hx; cases hx
      · exact hx
    refine ⟨?_, ?_, ?_, ?_, ho'⟩
    · rw [hz, hl, e]; exact hi.heads.snoc hent
    · intro _; rw [hlw _ hl, hnow, e]; rfl
    · left; rw [hlw _ hl, hnow, e]; rfl
    · intro m pl hm
      rw [hl]
      by_cases em : m = n
      · exact ⟨touchOf h 1 n (boxOf s n), by simp, by rw [htouch], by rw [htouch, em]⟩
      · rw [e] at hm
        have : (wroteP s n).last m = s.last m := by unfold wroteP setF; simp [em]
        dsimp only at hm
        rw [this] at hm
        obtain ⟨u, u1, u2⟩ := hi.last m pl hm
        exact ⟨u, List.mem_append_left _ u1, u2⟩
  · obtain ⟨_, e⟩ := writeP_errs s h n he
    have hlast : ∀ L : List HostS.Touch, (∀ u ∈ h.log, u ∈ L) → ∀ m pl, (writeP s h n).2.1.last m = some pl → ∃ u ∈ L, u.op = 1 ∧ u.page = m := by
      intro L hL m pl hm
      rw [e] at hm
      obtain ⟨u, u1, u2⟩ := hi.last m pl hm
      exact ⟨u, hL u u1, u2⟩
    have hwr : (writeP s h n).2.1.writes = s.writes := by rw [e]; rfl
    have herr : (writeP s h n).2.1.err = (writeP s h n).1 := by rw [e]; rfl
    have hro : (writeP s h n).2.1.round = s.round ∧ (writeP s h n).2.1.pages = s.pages := by rw [e]; exact ⟨rfl, rfl⟩
    have hcase : ((writeP s h n).2.2.log = h.log) ∨ ((writeP s h n).2.2.log = h.log ++ [touchOf h 1 n (boxOf s n)] ∧ (writeP s h n).1 = 110) := by
      by_cases hwn : s.writes = 4294967295
      · left
        unfold writeP
        rw [if_pos hwn]
      · have e3 : writeP s h n = if (writeR h n (boxOf s n)).1 = 0 then (0, wroteP s n, (writeR h n (boxOf s n)).2) else ((writeR h n (boxOf s n)).1, die s (writeR h n (boxOf s n)).1, (writeR h n (boxOf s n)).2) := by
          unfold writeP
          rw [if_neg hwn]
        rw [e3] at he ⊢
        rw [hw] at he ⊢
        dsimp only at he ⊢
        split at he
        · exact absurd rfl he
        · rename_i hne
          rw [if_neg hne]
          rcases hlg with ⟨hx, _⟩|⟨hx, hy⟩
          · exact .inl hx
          · rcases hy with hy|hy
            · exact absurd hy hne
            · exact .inr ⟨hx, hy⟩
    rcases hcase with hl|⟨hl, h110⟩
    · refine ⟨by rw [hz, hl, hro.1, hro.2]; exact hi.heads, fun hh => absurd (herr ▸ hh) he, .inl (by rw [hl, hwr]; exact hnow), by rw [hl]; exact hlast _ fun _ h => h, ho'⟩
    · refine ⟨by rw [hz, hl, hro.1, hro.2]; exact hi.heads.snoc hent, fun hh => absurd (herr ▸ hh) he, .inr ⟨by rw [hlw _ hl, hwr, hnow], by rw [herr]; exact h110⟩, by rw [hl]; exact hlast _ fun _ h => List.mem_append_left _ h, ho'⟩
theorem HI.held (hi : HI s h) (l : List Fr) (m : Nat) : HI { s with held := l, most := m } h := ⟨hi.heads, hi.now, hi.then_, hi.last, ⟨hi.over.pages, hi.over.size⟩⟩
theorem HI.room (hi : HI s h) (hk : Ok s) (h0 : s.err = 0) : HI (roomP s h).2.1 (roomP s h).2.2 := by
  unfold roomP
  split
  · exact hi
  · dsimp only
    split
    · rename_i hc
      have hn : (s.held.head?.map Fr.page).getD 0 ∈ numbers s := by
        by_cases hh : (s.held.head?.map Fr.page).getD 0 ∈ numbers s
        · exact hh
        · rw [changed_no hh] at hc; cases hc
      have hw := hi.write hk h0 hn
      split
      · exact hw.held _ _
      · exact hw
    · exact hi.held _ _
theorem readR_log (h : HS) (n : Int) (ht : HostS.there h n) : (readR h n).2.2.log = h.log ∨ (readR h n).2.2.log = h.log ++ [⟨0, n, h.size, List.replicate 12 0#8⟩] := by
  have e : (readR h n).2.2 = (does h 0 n [] id).1 := by
    unfold readR
    rw [if_pos ht]
    dsimp only
    split <;> rfl
  rw [e]
  rcases does_log h 0 n [] id fun _ => rfl with ⟨hx, _⟩|⟨hx, _⟩
  · exact .inl hx
  · exact .inr hx
theorem readR_err3 (h : HS) (n : Int) (ht : HostS.there h n) : (readR h n).2.1 = 0 ∨ (readR h n).2.1 = 110 := by
  have e : (readR h n).2.1 = (does h 0 n [] id).2 := by
    unfold readR
    rw [if_pos ht]
    dsimp only
    split
    · rename_i hz; exact hz.symm
    · rfl
  rw [e]
  rcases does_log h 0 n [] id fun _ => rfl with ⟨_, hx⟩|⟨_, hx⟩
  · exact .inr hx
  · exact hx
theorem HI.read (hi : HI s h) {n : Int} (h0 : 0 ≤ n) (h1 : n < s.pages) {pl : Plc} (hl : s.last n = some pl) : HI s (readR h n).2.2 := by
  have hs := readR_same h n
  have ho : Over s (readR h n).2.2 := ⟨hs.1.trans hi.over.pages, hs.2.trans hi.over.size⟩
  rcases readR_log h n (hi.there h0 h1) with e|e
  · exact ⟨by rw [e, hs.2]; exact hi.heads, by rw [e]; exact hi.now, by rw [e]; exact hi.then_, by rw [e]; exact hi.last, ho⟩
  · have hw : wrs (h.log ++ [⟨0, n, h.size, List.replicate 12 0#8⟩]) = wrs h.log := by unfold wrs; rw [List.countP_append]; simp
    refine ⟨?_, by rw [e, hw]; exact hi.now, by rw [e, hw]; exact hi.then_, ?_, ho⟩
    · rw [e, hs.2]
      exact hi.heads.snoc ⟨rfl, h0, h1, .inl ⟨rfl, rfl, hi.last n pl hl⟩⟩
    · intro m pl hm
      rw [e]
      obtain ⟨u, u1, u2⟩ := hi.last m pl hm
      exact ⟨u, List.mem_append_left _ u1, u2⟩
theorem HI.die (hi : HI s h) (h0 : s.err = 0) (e : Nat) : HI (die s e) h := by
  exact ⟨hi.heads, fun _ => hi.now h0, .inl (hi.now h0), hi.last, ⟨hi.over.pages, hi.over.size⟩⟩
theorem open_err (key : Bytes) (pl : Plc) (b : Bytes) : (pgOpenR key pl b).2 = 0 ∨ (pgOpenR key pl b).2 = 120 := by
  by_cases hh : pgOpens key pl b
  · left; rw [pgOpenR_yes _ _ _ hh]
  · right; rw [pgOpenR_not _ _ _ hh]
theorem HI.use (hi : HI s h) (f : Fr) : HI (useP s f) h := hi.held _ _
theorem HI.fetch (hi : HI s h) (h0 : s.err = 0) {n : Int} (hp : 0 ≤ n ∧ n < s.pages) : HI (fetchP s h n).2.1 (fetchP s h n).2.2 := by
  unfold fetchP
  split
  · rename_i pl hl
    have hr := hi.read hp.1 hp.2 hl
    dsimp only
    split
    · split
      · exact hr.use _
      · exact hr.die h0 _
    · exact hr.die h0 _
  · exact hi.use _
theorem HI.load (hi : HI s h) (hk : Ok s) (n : Int) : HI (loadP s h n).2.1 (loadP s h n).2.2 := by
  unfold loadP
  split
  · rename_i hr
    obtain ⟨h0, hp⟩ := right_zero hr
    split
    · exact hi.use _
    · have a := hi.room hk h0
      dsimp only
      split
      · rename_i hz
        exact a.fetch (room_err hk h0 hz) (by rw [(near_room s h).spages]; exact hp)
      · exact a
  · exact hi
theorem HI.save (hi : HI s h) (hk : Ok s) (n : Int) (t : Bytes) : HI (saveP s h n t).2.1 (saveP s h n t).2.2 := by
  unfold saveP
  split
  · rename_i hr
    obtain ⟨h0, hp⟩ := right_zero hr
    split
    · split
      · exact hi.use _
      · have a := hi.room hk h0
        dsimp only
        split
        · exact a.use _
        · exact a
    · exact hi
  · exact hi
theorem hi_fresh {key : Bytes} {round : BitVec 64} {window : Nat} {pages : Int} {text : Nat} {h : HS} (hl : h.log = []) (ho : Over (freshP key round window pages text) h) : HI (freshP key round window pages text) h :=
  ⟨(by rw [hl]; intro i hi; simp at hi), fun _ => (by rw [hl]; rfl), .inl (by rw [hl]; rfl), fun n pl hh => (by cases hh), ho⟩
end
end Go.Sl.PagerS
namespace Go.Sl.PagerS
open Go Go.Sl Go.Sl.HostS
attribute [local irreducible] pgSealB pgOpenR
structure HRel (h g : HS) : Prop where
  pages : h.pages = g.pages
  size : h.size = g.size
  ops : h.ops = g.ops
  log : h.log = g.log
  down : h.down = g.down
  coming : ∀ k, before (h.coming k) = before (g.coming k) ∧ behind (h.coming k) = behind (g.coming k)
abbrev pi (f : Fr) : Int × Nat := (f.page, f.is)
structure SRel (s t : PS) : Prop where
  held : s.held.map pi = t.held.map pi
  round : s.round = t.round
  window : s.window = t.window
  pages : s.pages = t.pages
  text : s.text = t.text
  most : s.most = t.most
  writes : s.writes = t.writes
  err : s.err = t.err
  last : s.last = t.last
section
variable {s t : PS} {h g : HS}
theorem SRel.len (r : SRel s t) : s.held.length = t.held.length := by
  have := congrArg List.length r.held
  rwa [List.length_map, List.length_map] at this
theorem SRel.numbers (r : SRel s t) : numbers s = numbers t := by
  have := congrArg (List.map Prod.fst) r.held
  rw [List.map_map, List.map_map] at this
  exact this
theorem find_pi (l : List Fr) (n : Int) : (l.find? fun f => f.page == n).map pi = (l.map pi).find? fun x => x.1 == n := by
  rw [List.find?_map]; rfl
theorem changed_pi (s : PS) (n : Int) : changedAt s n = ((((s.held.map pi).find? fun x => x.1 == n).map Prod.snd).getD 0 == 2) := by
  unfold changedAt frOf
  rw [← find_pi, Option.map_map]
  rfl
theorem SRel.changed (r : SRel s t) (n : Int) : changedAt s n = changedAt t n := by rw [changed_pi, changed_pi, r.held]
theorem SRel.right (r : SRel s t) (n : Int) : rightP s n = rightP t n := by unfold rightP; rw [r.err, r.pages]
theorem SRel.frOf (r : SRel s t) (n : Int) : (frOf s n).map pi = (frOf t n).map pi := by unfold PagerS.frOf; rw [find_pi, find_pi, r.held]
theorem SRel.next (r : SRel s t) (n : Int) : nextPl s n = nextPl t n := by
  unfold nextPl verOf
  rw [r.round, r.writes, r.last]
theorem cleaned_pi (l : List Fr) (n : Int) : (cleaned l n).map pi = (l.map pi).map fun x => if x.1 = n then (x.1, 1) else x := by
  unfold cleaned
  rw [List.map_map, List.map_map]
  apply List.map_congr_left
  intro f _
  simp only [Function.comp]
  split
  · rename_i e; rfl
  · rfl
theorem SRel.wrote (r : SRel s t) (n : Int) : SRel (wroteP s n) (wroteP t n) :=
  ⟨by show (cleaned s.held n).map pi = (cleaned t.held n).map pi; rw [cleaned_pi, cleaned_pi, r.held], r.round, r.window, r.pages, r.text, r.most, by show s.writes + 1 = t.writes + 1; rw [r.writes], r.err,
    by show setF s.last n (some (nextPl s n)) = setF t.last n (some (nextPl t n)); rw [r.next, r.last]⟩
theorem SRel.die (r : SRel s t) (e : Nat) : SRel (die s e) (die t e) := ⟨r.held, r.round, r.window, r.pages, r.text, r.most, r.writes, rfl, r.last⟩
theorem filter_pi (l : List Fr) (n : Int) : (l.filter fun f => !(f.page == n)).map pi = (l.map pi).filter fun x => !(x.1 == n) := by
  rw [List.filter_map]; rfl
theorem SRel.use (r : SRel s t) {f f' : Fr} (e : pi f = pi f') : SRel (useP s f) (useP t f') := by
  have e1 : f.page = f'.page := congrArg Prod.fst e
  have hh : ((s.held.filter fun g => !(g.page == f.page)) ++ [f]).map pi = ((t.held.filter fun g => !(g.page == f'.page)) ++ [f']).map pi := by
    rw [List.map_append, List.map_append, filter_pi, filter_pi, r.held, e1]
    simp only [List.map_cons, List.map_nil, e]
  have hl := congrArg List.length hh
  rw [List.length_map, List.length_map] at hl
  exact ⟨hh, r.round, r.window, r.pages, r.text, by show max s.most _ = max t.most _; rw [r.most, hl], r.writes, r.err, r.last⟩
theorem SRel.tail (r : SRel s t) : SRel { s with held := s.held.tail } { t with held := t.held.tail } :=
  ⟨by show s.held.tail.map pi = t.held.tail.map pi; rw [List.map_tail, List.map_tail, r.held], r.round, r.window, r.pages, r.text, r.most, r.writes, r.err, r.last⟩
theorem does_rel (r : HRel h g) (op n : Int) {b b' : Bytes} (hb : headOf b = headOf b') (act act' : HS → HS)
    (ha : ∀ x y : HS, HRel x y → HRel (act x) (act' y)) : (does h op n b act).2 = (does g op n b' act').2 ∧ HRel (does h op n b act).1 (does g op n b' act').1 := by
  obtain ⟨c1, c2⟩ := r.coming h.ops
  have ht : touchOf h op n b = touchOf g op n b' := by unfold touchOf; rw [r.size, hb]
  have htk : ∀ k, before ((taken h).coming k) = before ((taken g).coming k) ∧ behind ((taken h).coming k) = behind ((taken g).coming k) := by
    intro k
    show before (setF h.coming h.ops [] k) = before (setF g.coming g.ops [] k) ∧ behind (setF h.coming h.ops [] k) = behind (setF g.coming g.ops [] k)
    rw [r.ops]
    unfold setF
    split
    · exact ⟨rfl, rfl⟩
    · exact r.coming k
  have hlg : HRel (logged h op n b) (logged g op n b') := ⟨r.pages, r.size, by show h.ops + 1 = g.ops + 1; rw [r.ops], by show h.log ++ [touchOf h op n b] = g.log ++ [touchOf g op n b']; rw [r.log, ht], r.down, htk⟩
  have ha2 := ha _ _ hlg
  unfold does
  rw [← r.down]
  split
  · exact ⟨rfl, r⟩
  · dsimp only
    rw [← r.ops, c1]
    split
    · exact ⟨rfl, ⟨r.pages, r.size, by show h.ops + 1 = g.ops + 1; rw [r.ops], r.log, rfl, htk⟩⟩
    · rw [c2]
      split
      · exact ⟨rfl, ⟨ha2.pages, ha2.size, ha2.ops, ha2.log, rfl, ha2.coming⟩⟩
      · exact ⟨rfl, ha2⟩
theorem write_rel (r : SRel s t) (q : HRel h g) (ks : Ok s) (kt : Ok t) (hos : Over s h) (hot : Over t g) {n : Int} (hn : n ∈ numbers s) : (writeP s h n).1 = (writeP t g n).1 ∧ SRel (writeP s h n).2.1 (writeP t g n).2.1 ∧ HRel (writeP s h n).2.2 (writeP t g n).2.2 := by
  obtain ⟨a1, a2, a3⟩ := box_len ks hn
  obtain ⟨b1, b2, b3⟩ := box_len kt (r.numbers ▸ hn)
  have hts : there h n := ⟨a2, by rw [hos.pages]; exact a3⟩
  have htt : there g n := ⟨b2, by rw [hot.pages]; exact b3⟩
  have hb : headOf (boxOf s n) = headOf (boxOf t n) := by
    unfold boxOf
    rw [headOf_box, headOf_box, r.next]
  obtain ⟨d1, d2⟩ := does_rel q 1 n hb (wrote n (boxOf s n)) (wrote n (boxOf t n)) fun x y hh => ⟨hh.pages, hh.size, hh.ops, hh.log, hh.down, hh.coming⟩
  have w1 : writeR h n (boxOf s n) = ((does h 1 n (boxOf s n) (wrote n (boxOf s n))).2, (does h 1 n (boxOf s n) (wrote n (boxOf s n))).1) := by
    unfold writeR
    rw [if_pos hts, if_pos (a1.trans hos.size.symm)]
  have w2 : writeR g n (boxOf t n) = ((does g 1 n (boxOf t n) (wrote n (boxOf t n))).2, (does g 1 n (boxOf t n) (wrote n (boxOf t n))).1) := by
    unfold writeR
    rw [if_pos htt, if_pos (b1.trans hot.size.symm)]
  unfold writeP
  rw [w1, w2, r.writes]
  split
  · exact ⟨rfl, r.die 130, q⟩
  · dsimp only
    rw [d1]
    split
    · exact ⟨rfl, r.wrote n, d2⟩
    · exact ⟨rfl, r.die _, d2⟩
theorem room_rel (r : SRel s t) (q : HRel h g) (ks : Ok s) (kt : Ok t) (hos : Over s h) (hot : Over t g) : (roomP s h).1 = (roomP t g).1 ∧ SRel (roomP s h).2.1 (roomP t g).2.1 ∧ HRel (roomP s h).2.2 (roomP t g).2.2 := by
  have hd : (s.held.head?.map Fr.page).getD 0 = (t.held.head?.map Fr.page).getD 0 := by
    have := congrArg List.head? r.held
    rw [List.head?_map, List.head?_map] at this
    have := congrArg (Option.map Prod.fst) this
    rw [Option.map_map, Option.map_map] at this
    exact congrArg (fun x => x.getD 0) this
  unfold roomP
  rw [r.len, r.window]
  split
  · exact ⟨rfl, r, q⟩
  · dsimp only
    rw [hd, r.changed]
    split
    · rename_i hc
      have hn : (t.held.head?.map Fr.page).getD 0 ∈ numbers s := by
        by_cases hh : (t.held.head?.map Fr.page).getD 0 ∈ numbers s
        · exact hh
        · rw [← r.changed, changed_no hh] at hc; cases hc
      obtain ⟨w1, w2, w3⟩ := write_rel r q ks kt hos hot hn
      rw [w1]
      split
      · exact ⟨rfl, SRel.tail w2, w3⟩
      · rename_i hne; exact ⟨w1, w2, w3⟩
    · exact ⟨rfl, ⟨(SRel.tail r).held, r.round, rfl, r.pages, r.text, r.most, r.writes, r.err, r.last⟩, q⟩
theorem read_rel (q : HRel h g) {n : Int} (hts : there h n) : (readR h n).2.1 = (readR g n).2.1 ∧ HRel (readR h n).2.2 (readR g n).2.2 := by
  have htt : there g n := ⟨hts.1, q.pages ▸ hts.2⟩
  obtain ⟨d1, d2⟩ := does_rel q 0 n (b := []) (b' := []) rfl id id fun x y hh => hh
  unfold readR
  rw [if_pos hts, if_pos htt]
  dsimp only
  rw [d1]
  split
  · exact ⟨rfl, d2⟩
  · exact ⟨rfl, d2⟩
def Alike (e0 : Nat) (x : (Bytes × Nat) × PH) (y : (Bytes × Nat) × PH) : Prop :=
  (x.1.2 = y.1.2 ∧ SRel x.2.1 y.2.1 ∧ HRel x.2.2 y.2.2) ∨ (e0 = 0 ∧ x.1.2 = 120 ∧ x.2.1.err = 120 ∧ y.1.2 = 0 ∧ x.2.2.log = y.2.2.log)
end
section
variable {s t : PS} {h g : HS} {b : Int → Bytes}
theorem Sound.fetch_err (hs : Sound s h b) (h0 : s.err = 0) {n : Int} (hn : n ∉ numbers s) (hp : 0 ≤ n ∧ n < s.pages) : (fetchP s h n).1.2 = 0 ∨ (fetchP s h n).1.2 = 110 := by
  obtain ⟨l1, l2⟩ := (hs.right h0 n).2 (changed_no hn)
  have hbl := hs.len n
  have ht1 := hs.ok.t1
  have ht : there h n := ⟨hp.1, by rw [hs.over.pages]; exact hp.2⟩
  unfold fetchP
  cases hl : s.last n with
  | none => exact .inl rfl
  | some pl =>
    dsimp only
    by_cases hz : (readR h n).2.1 = 0
    · rw [if_pos hz, readR_zero hs.mild hz, l2 pl hl, pg_back _ _ _ (by omega)]
      exact .inl rfl
    · rw [if_neg hz]
      rcases readR_err3 h n ht with e|e
      · exact absurd e hz
      · exact .inr e
theorem fetch_rel (r : SRel s t) (q : HRel h g) (hst : Sound t g b) (hos : Over s h) (h0 : t.err = 0) {n : Int} (hn : n ∉ numbers t) (hp : 0 ≤ n ∧ n < t.pages) : Alike 0 (fetchP s h n) (fetchP t g n) := by
  have hts : there h n := ⟨hp.1, by rw [hos.pages, r.pages]; exact hp.2⟩
  obtain ⟨d1, d2⟩ := read_rel q hts
  have he := hst.fetch_err h0 hn hp
  unfold fetchP at he ⊢
  rw [r.last]
  cases hl : t.last n with
  | none =>
    dsimp only
    exact .inl ⟨rfl, r.use rfl, q⟩
  | some pl =>
    rw [hl] at he
    dsimp only at he ⊢
    rw [d1]
    by_cases hz : (readR g n).2.1 = 0
    · rw [if_pos hz, if_pos hz]
      rw [if_pos hz] at he
      have h2 : (pgOpenR t.key pl (readR g n).1).2 = 0 := by
        rcases open_err t.key pl (readR g n).1 with e|e
        · exact e
        · rw [if_neg (by rw [e]; omega)] at he
          dsimp only at he
          rcases he with he|he <;> omega
      rw [if_pos h2]
      by_cases h1 : (pgOpenR s.key pl (readR h n).1).2 = 0
      · rw [if_pos h1]
        exact .inl ⟨rfl, r.use rfl, d2⟩
      · rw [if_neg h1]
        have h120 : (pgOpenR s.key pl (readR h n).1).2 = 120 := (open_err _ _ _).resolve_left h1
        exact .inr ⟨rfl, h120, h120, rfl, d2.log⟩
    · rw [if_neg hz, if_neg hz]
      exact .inl ⟨rfl, r.die _, d2⟩
theorem load_rel (r : SRel s t) (q : HRel h g) (ks : Ok s) (hst : Sound t g b) (hos : Over s h) (n : Int) : Alike s.err (loadP s h n) (loadP t g n) := by
  unfold loadP
  rw [r.right]
  by_cases hr : rightP t n = 0
  · rw [if_pos hr, if_pos hr]
    obtain ⟨h0, hp⟩ := right_zero hr
    have hfr := r.frOf n
    cases hf : frOf t n with
    | some f' =>
      rw [hf] at hfr
      cases hf2 : frOf s n with
      | none => rw [hf2] at hfr; cases hfr
      | some f =>
        rw [hf2] at hfr
        exact .inl ⟨rfl, r.use (Option.some.inj hfr), q⟩
    | none =>
      rw [hf] at hfr
      cases hf2 : frOf s n with
      | some f => rw [hf2] at hfr; cases hfr
      | none =>
        dsimp only
        obtain ⟨w1, w2, w3⟩ := room_rel r q ks hst.ok hos hst.over
        rw [w1]
        obtain ⟨q1, q2, q3⟩ := hst.room h0
        obtain ⟨v1, v2, v3, v4, v5⟩ := roomP_leaves (h := g) hst.ok
        by_cases hz : (roomP t g).1 = 0
        · rw [if_pos hz, if_pos hz]
          have := fetch_rel w2 w3 q1 ((near_room s h).over hos) (q2 hz) (v1 n (frOf_none hf)) (by rw [v3]; exact hp)
          rcases this with hh|⟨_, hh⟩
          · exact .inl hh
          · exact .inr ⟨r.err.trans h0, hh⟩
        · rw [if_neg hz, if_neg hz]
          exact .inl ⟨rfl, w2, w3⟩
  · rw [if_neg hr, if_neg hr]
    exact .inl ⟨rfl, r, q⟩
theorem save_rel (r : SRel s t) (q : HRel h g) (ks : Ok s) (kt : Ok t) (hos : Over s h) (hot : Over t g) (n : Int) {x y : Bytes} (hxy : x.length = y.length) : (saveP s h n x).1 = (saveP t g n y).1 ∧ SRel (saveP s h n x).2.1 (saveP t g n y).2.1 ∧ HRel (saveP s h n x).2.2 (saveP t g n y).2.2 := by
  unfold saveP
  rw [r.right, hxy, r.text]
  by_cases hr : rightP t n = 0
  · rw [if_pos hr, if_pos hr]
    by_cases hl : y.length = t.text
    · rw [if_pos hl, if_pos hl]
      have hfr := r.frOf n
      cases hf : frOf t n with
      | some f' =>
        rw [hf] at hfr
        cases hf2 : frOf s n with
        | none => rw [hf2] at hfr; cases hfr
        | some f => exact ⟨rfl, r.use rfl, q⟩
      | none =>
        rw [hf] at hfr
        cases hf2 : frOf s n with
        | some f => rw [hf2] at hfr; cases hfr
        | none =>
          dsimp only
          obtain ⟨w1, w2, w3⟩ := room_rel r q ks kt hos hot
          rw [w1]
          split
          · exact ⟨rfl, w2.use rfl, w3⟩
          · exact ⟨w1, w2, w3⟩
    · rw [if_neg hl, if_neg hl]
      exact ⟨rfl, r, q⟩
  · rw [if_neg hr, if_neg hr]
    exact ⟨rfl, r, q⟩
theorem load_rel2 {b' : Int → Bytes} (r : SRel s t) (q : HRel h g) (hss : Sound s h b') (hst : Sound t g b) (n : Int) : (loadP s h n).1.2 = (loadP t g n).1.2 ∧ SRel (loadP s h n).2.1 (loadP t g n).2.1 ∧ HRel (loadP s h n).2.2 (loadP t g n).2.2 := by
  rcases load_rel r q hss.ok hst hss.over n with hh|⟨h0s, h1, h2, h3, _⟩
  · exact hh
  · exfalso
    unfold loadP at h1
    by_cases hr : rightP s n = 0
    · rw [if_pos hr] at h1
      obtain ⟨h0, hp⟩ := right_zero hr
      cases hf : frOf s n with
      | some f => rw [hf] at h1; cases h1
      | none =>
        rw [hf] at h1
        dsimp only at h1
        obtain ⟨q1, q2, q3⟩ := hss.room h0
        obtain ⟨v1, v2, v3, v4, v5⟩ := roomP_leaves (h := h) hss.ok
        by_cases hz : (roomP s h).1 = 0
        · rw [if_pos hz] at h1
          rcases q1.fetch_err (q2 hz) (v1 n (frOf_none hf)) (by rw [v3]; exact hp) with e|e <;> omega
        · rw [if_neg hz] at h1
          dsimp only at h1
          have : (roomP s h).1 = 110 ∨ (roomP s h).1 = 130 := by
            unfold roomP at hz ⊢
            split
            · rename_i hl; rw [if_pos hl] at hz; exact absurd rfl hz
            · rename_i hl
              rw [if_neg hl] at hz
              dsimp only at hz ⊢
              split
              · rename_i hc
                rw [if_pos hc] at hz
                split
                · rename_i hw; rw [if_pos hw] at hz; exact absurd rfl hz
                · rename_i hw
                  have hn : (s.held.head?.map Fr.page).getD 0 ∈ numbers s := by
                    by_cases hh : (s.held.head?.map Fr.page).getD 0 ∈ numbers s
                    · exact hh
                    · rw [changed_no hh] at hc; cases hc
                  obtain ⟨a1, a2, a3⟩ := box_len hss.ok hn
                  have hts : there h ((s.held.head?.map Fr.page).getD 0) := ⟨a2, by rw [hss.over.pages]; exact a3⟩
                  unfold writeP at hw ⊢
                  split
                  · exact .inr rfl
                  · rename_i hwn
                    rw [if_neg hwn] at hw
                    dsimp only at hw ⊢
                    split
                    · rename_i h9; rw [if_pos h9] at hw; exact absurd rfl hw
                    · rename_i h9
                      dsimp only
                      have w1 : (writeR h ((s.held.head?.map Fr.page).getD 0) (boxOf s ((s.held.head?.map Fr.page).getD 0))).1 = (does h 1 ((s.held.head?.map Fr.page).getD 0) (boxOf s ((s.held.head?.map Fr.page).getD 0)) (wrote ((s.held.head?.map Fr.page).getD 0) (boxOf s ((s.held.head?.map Fr.page).getD 0)))).2 := by
                        unfold writeR
                        rw [if_pos hts, if_pos (a1.trans hss.over.size.symm)]
                      rw [w1] at h9 ⊢
                      rcases does_log h 1 _ (boxOf s ((s.held.head?.map Fr.page).getD 0)) (wrote ((s.held.head?.map Fr.page).getD 0) (boxOf s ((s.held.head?.map Fr.page).getD 0))) fun _ => rfl with ⟨_, e⟩|⟨_, e|e⟩
                      · exact .inl e
                      · exact absurd e h9
                      · exact .inl e
              · rename_i hc; rw [if_neg hc] at hz; exact absurd rfl hz
          omega
    · rw [if_neg hr] at h1
      dsimp only at h1
      unfold rightP at h1
      rw [if_neg (by rw [h0s]; simp)] at h1
      split at h1 <;> omega
end
end Go.Sl.PagerS
namespace Go.Sl.SlotS
open Go Go.Sl Go.Sl.HostS Go.Sl.PagerS
attribute [local irreducible] pgSealB pgOpenR
abbrev Acc := Int × Int × Int
structure SL where
  first : Nat
  n : Nat
  size : Nat
  per : Nat
  log : List Acc
def takeN (n per : Nat) : Nat := n / per + if n % per = 0 then 0 else 1
structure Fit (s : SL) (p : PS) : Prop where
  size : 1 ≤ s.size
  le : s.size ≤ p.text
  per : s.per = p.text / s.size
  room : ((s.first + takeN s.n s.per : Nat) : Int) ≤ p.pages
def pg (s : SL) (i : Nat) : Nat := s.first + i / s.per
def fr (s : SL) (i : Nat) : Nat := i % s.per * s.size
def part (t : Bytes) (a n : Nat) : Bytes := (t.drop a).take n
def lay (t : Bytes) (a : Nat) (b : Bytes) : Bytes := t.take a ++ (b ++ t.drop (a + b.length))
def touch (s : SL) (k i j : Int) : SL := { s with log := s.log ++ [(k, i, j)] }
section
variable {s : SL} {p : PS} {i j : Nat}
theorem Fit.per1 (f : Fit s p) : 1 ≤ s.per := by rw [f.per]; exact Nat.div_pos f.le f.size
theorem Fit.page (f : Fit s p) (hi : i < s.n) : ((pg s i : Nat) : Int) < p.pages := by
  have h1 := f.per1
  have hr := f.room
  have h2 : i / s.per < takeN s.n s.per := by
    unfold takeN
    have e1 := Nat.div_add_mod s.n s.per
    have e2 := Nat.mod_lt s.n h1
    by_cases h0 : s.n % s.per = 0
    · rw [if_pos h0, Nat.add_zero]
      exact Nat.div_lt_of_lt_mul (by omega)
    · rw [if_neg h0]
      have : i / s.per ≤ s.n / s.per := Nat.div_le_div_right (by omega)
      omega
  unfold pg
  omega
theorem Fit.from (f : Fit s p) (i : Nat) : fr s i + s.size ≤ p.text := by
  have h1 := f.per1
  have h2 := Nat.mod_lt i h1
  have h3 : (i % s.per + 1) * s.size ≤ s.per * s.size := Nat.mul_le_mul_right _ h2
  have h4 : s.per * s.size ≤ p.text := by rw [f.per]; exact Nat.div_mul_le_self _ _
  unfold fr
  rw [Nat.succ_mul] at h3
  omega
theorem Fit.small (f : Fit s p) (hi : i < s.n) (hp : p.pages ≤ 65536) (ht : p.text ≤ 4096) : i ≤ 268435456 := by
  have h1 := f.per1
  have hp2 := f.page hi
  have h2 : i / s.per ≤ 65535 := by unfold pg at hp2; omega
  have h3 : s.per ≤ 4096 := by rw [f.per]; exact Nat.le_trans (Nat.div_le_self _ _) ht
  have e1 := Nat.div_add_mod i s.per
  have e2 := Nat.mod_lt i h1
  have h4 : s.per * (i / s.per) ≤ 4096 * 65535 := Nat.mul_le_mul h3 h2
  omega
theorem Fit.touch (f : Fit s p) (k i j : Int) : Fit (touch s k i j) p := ⟨f.size, f.le, f.per, f.room⟩
theorem Fit.same {q : PS} (f : Fit s p) (h1 : q.text = p.text) (h2 : q.pages = p.pages) : Fit s q := ⟨f.size, by rw [h1]; exact f.le, by rw [h1]; exact f.per, by rw [h2]; exact f.room⟩
theorem part_len {t : Bytes} {a n : Nat} (h : a + n ≤ t.length) : (part t a n).length = n := by unfold part; rw [List.length_take, List.length_drop]; omega
theorem lay_len {t b : Bytes} {a : Nat} (h : a + b.length ≤ t.length) : (lay t a b).length = t.length := by
  unfold lay; rw [List.length_append, List.length_append, List.length_take, List.length_drop]; omega
theorem part_lay {t b : Bytes} {a : Nat} (h : a + b.length ≤ t.length) : part (lay t a b) a b.length = b := by
  unfold part lay
  rw [List.drop_append_of_le_length (by rw [List.length_take]; omega), List.drop_of_length_le (by rw [List.length_take]; omega), List.nil_append, List.take_left]
theorem lay_get {t b : Bytes} {a k : Nat} (h : a + b.length ≤ t.length) (hk : k < a ∨ a + b.length ≤ k) : (lay t a b)[k]? = t[k]? := by
  unfold lay
  have hl : (t.take a).length = a := by rw [List.length_take]; omega
  by_cases hka : k < a
  · rw [List.getElem?_append_left (by omega), List.getElem?_take_of_lt hka]
  · rw [List.getElem?_append_right (by omega), List.getElem?_append_right (by omega), List.getElem?_drop]
    congr 1; omega
theorem part_other {t b : Bytes} {a c n : Nat} (h : a + b.length ≤ t.length) (hd : c + n ≤ a ∨ a + b.length ≤ c) : part (lay t a b) c n = part t c n := by
  apply List.ext_getElem?
  intro k
  unfold part
  by_cases hk : k < n
  · rw [List.getElem?_take_of_lt hk, List.getElem?_take_of_lt hk, List.getElem?_drop, List.getElem?_drop]
    exact lay_get h (by omega)
  · rw [List.getElem?_eq_none (by rw [List.length_take]; omega), List.getElem?_eq_none (by rw [List.length_take]; omega)]
theorem fr_apart (hij : i ≠ j) (hp : pg s i = pg s j) : fr s i + s.size ≤ fr s j ∨ fr s j + s.size ≤ fr s i := by
  have e1 := Nat.div_add_mod i s.per
  have e2 := Nat.div_add_mod j s.per
  have hd : i / s.per = j / s.per := by unfold pg at hp; omega
  have hne : i % s.per ≠ j % s.per := by
    intro h
    rw [hd, h] at e1
    omega
  unfold fr
  rcases Nat.lt_or_gt_of_ne hne with h|h
  · left
    have := Nat.mul_le_mul_right s.size (show i % s.per + 1 ≤ j % s.per from h)
    rw [Nat.succ_mul] at this
    omega
  · right
    have := Nat.mul_le_mul_right s.size (show j % s.per + 1 ≤ i % s.per from h)
    rw [Nat.succ_mul] at this
    omega
end
def has (s : SL) (i : Int) : Prop := 0 ≤ i ∧ i < s.n
instance (s : SL) (i : Int) : Decidable (has s i) := by unfold has; infer_instance
abbrev St3 := SL × PS × HS
def getS (s : SL) (p : PS) (h : HS) (i : Int) : (Bytes × Nat) × St3 :=
  if has s i then
    let r := loadP p h (pg s i.toNat)
    (if r.1.2 = 0 then (part r.1.1 (fr s i.toNat) s.size, 0) else ([], r.1.2), touch s 0 i 0, r.2)
  else (([], 2), s, p, h)
def setS (s : SL) (p : PS) (h : HS) (i : Int) (b : Bytes) : Nat × St3 :=
  if has s i then
    if b.length = s.size then
      let r := loadP p h (pg s i.toNat)
      if r.1.2 = 0 then
        let q := saveP r.2.1 r.2.2 (pg s i.toNat) (lay r.1.1 (fr s i.toNat) b)
        (q.1, touch s 1 i 0, q.2)
      else (r.1.2, touch s 1 i 0, r.2)
    else (4, s, p, h)
  else (2, s, p, h)
def pairL (s : SL) (p : PS) (h : HS) (i j : Nat) : (Nat × Bytes × Bytes) × PH :=
  let r := loadP p h (pg s i)
  if r.1.2 = 0 then
    if pg s j = pg s i then ((0, r.1.1, r.1.1), r.2)
    else
      let q := loadP r.2.1 r.2.2 (pg s j)
      if q.1.2 = 0 then ((0, r.1.1, q.1.1), q.2) else ((q.1.2, [], []), q.2)
  else ((r.1.2, [], []), r.2)
def pairE (s : SL) (p : PS) (h : HS) (i j : Nat) (tI tJ a b : Bytes) : Nat × PH :=
  if pg s j = pg s i then saveP p h (pg s i) (lay (lay tI (fr s i) a) (fr s j) b)
  else
    let q := saveP p h (pg s i) (lay tI (fr s i) a)
    if q.1 = 0 then saveP q.2.1 q.2.2 (pg s j) (lay tJ (fr s j) b) else q
def newS (first n size : Int) (p : PS) : Nat :=
  if first < 0 ∨ n < 0 ∨ size < 1 then 2
  else if (p.text : Int) < size then 4
  else if p.pages < first ∨ p.pages - first < takeN n.toNat (p.text / size.toNat) then 5
  else 0
def freshS (first n size : Int) (p : PS) : SL := ⟨first.toNat, n.toNat, size.toNat, p.text / size.toNat, []⟩
theorem fit_fresh {first n size : Int} {p : PS} (h : newS first n size p = 0) : Fit (freshS first n size p) p := by
  unfold newS at h
  split at h
  · cases h
  · split at h
    · cases h
    · split at h
      · cases h
      · refine ⟨?_, ?_, rfl, ?_⟩
        · show 1 ≤ size.toNat; omega
        · show size.toNat ≤ p.text; omega
        · show ((first.toNat + takeN n.toNat (p.text / size.toNat) : Nat) : Int) ≤ p.pages
          omega
def pagesS (n size text : Int) : Int × Nat :=
  if n < 0 ∨ size < 1 then (0, 2)
  else if text < size then (0, 4)
  else if 65536 < takeN n.toNat (text.toNat / size.toNat) then (0, 5)
  else ((takeN n.toNat (text.toNat / size.toNat) : Nat), 0)
theorem mem_use (s : PS) (f : PagerS.Fr) : f ∈ (useP s f).held := List.mem_append.2 (.inr (List.mem_singleton.2 rfl))
theorem load_held {p : PS} {h : HS} {n : Int} (he : (loadP p h n).1.2 = 0) : ∃ f ∈ (loadP p h n).2.1.held, f.text = (loadP p h n).1.1 := by
  unfold loadP at he ⊢
  split
  · rename_i hr
    rw [if_pos hr] at he
    split
    · rename_i f hf
      exact ⟨f, mem_use _ _, rfl⟩
    · rename_i hf
      rw [hf] at he
      dsimp only at he ⊢
      split
      · rename_i hz
        rw [if_pos hz] at he
        generalize (roomP p h).2.1 = p1 at *
        generalize (roomP p h).2.2 = h1 at *
        unfold fetchP at he ⊢
        split
        · rename_i pl hl
          rw [hl] at he
          try dsimp only at he
          try dsimp only
          split
          · rename_i h0
            rw [if_pos h0] at he
            try dsimp only at he
            try dsimp only
            split
            · exact ⟨_, mem_use _ _, rfl⟩
            · rename_i ho
              rw [if_neg ho] at he
              exact absurd he ho
          · rename_i h0
            rw [if_neg h0] at he
            exact absurd he h0
        · exact ⟨_, mem_use _ _, rfl⟩
      · rename_i hz
        rw [if_neg hz] at he
        exact absurd he hz
  · rename_i hr
    rw [if_neg hr] at he
    exact absurd he hr
theorem load_text {p : PS} {h : HS} {n : Int} (he : (loadP p h n).1.2 = 0) (hk : Ok (loadP p h n).2.1) : (loadP p h n).1.1.length = p.text := by
  obtain ⟨f, hf, e⟩ := load_held he
  rw [← e, hk.len f hf]
  exact (near_load p h n).text
end Go.Sl.SlotS
namespace Go.Sl.SlotS
open Go Go.Sl Go.Sl.HostS Go.Sl.PagerS
attribute [local irreducible] pgSealB pgOpenR PagerS.loadP PagerS.saveP
section
variable {s : SL} {p : PS} {h : HS} {b : Int → Bytes} {i j : Nat}
theorem has_nat (hi : i < s.n) : has s (i : Int) := ⟨by omega, by omega⟩
def slotB (s : SL) (b : Int → Bytes) (i : Nat) : Bytes := part (b (pg s i)) (fr s i) s.size
theorem slotB_len (f : Fit s p) (hb : ∀ n : Int, (b n).length = p.text) (i : Nat) : (slotB s b i).length = s.size := part_len (by rw [hb]; exact f.from i)
def putB (s : SL) (b : Int → Bytes) (i : Nat) (x : Bytes) : Int → Bytes := setF b (pg s i) (lay (b (pg s i)) (fr s i) x)
theorem putB_at (f : Fit s p) (hb : ∀ n : Int, (b n).length = p.text) {x : Bytes} (hx : x.length = s.size) (i j : Nat) : slotB s (putB s b i x) j = if j = i then x else slotB s b j := by
  have h1 := f.from i
  have h2 := f.from j
  unfold slotB putB setF
  by_cases e : j = i
  · subst e
    rw [if_pos rfl, if_pos rfl, ← hx]
    exact part_lay (by rw [hb, hx]; exact h1)
  · rw [if_neg e]
    by_cases hp : ((pg s j : Nat) : Int) = (pg s i : Nat)
    · rw [if_pos hp]
      have hpn : pg s i = pg s j := by omega
      have := fr_apart (s := s) (i := i) (j := j) (fun hh => e hh.symm) hpn
      rw [hpn]
      exact part_other (by rw [hb, hx]; exact h1) (by rw [hx]; omega)
    · rw [if_neg hp]
theorem putB_len (f : Fit s p) (hb : ∀ n : Int, (b n).length = p.text) {x : Bytes} (hx : x.length = s.size) (i : Nat) (n : Int) : (putB s b i x n).length = p.text := by
  have h1 := f.from i
  unfold putB setF
  split
  · rw [lay_len (by rw [hb, hx]; exact h1), hb]
  · exact hb n
theorem get_q (q : Quiet p h b) (f : Fit s p) (hi : i < s.n) (hw : p.writes < 4294967295) : (getS s p h i).1 = (slotB s b i, 0) ∧ (getS s p h i).2.1 = touch s 0 i 0 ∧ Quiet (getS s p h i).2.2.1 (getS s p h i).2.2.2 b := by
  obtain ⟨a1, a2⟩ := q.load hw (n := ((pg s i : Nat) : Int)) (by omega) (f.page hi)
  unfold getS
  rw [if_pos (has_nat hi), Int.toNat_natCast]
  dsimp only
  rw [a1, if_pos rfl]
  exact ⟨rfl, rfl, a2⟩
theorem set_q (q : Quiet p h b) (f : Fit s p) (hi : i < s.n) (hw : p.writes + 1 < 4294967295) {x : Bytes} (hx : x.length = s.size) : (setS s p h i x).1 = 0 ∧ (setS s p h i x).2.1 = touch s 1 i 0 ∧ Quiet (setS s p h i x).2.2.1 (setS s p h i x).2.2.2 (putB s b i x) := by
  obtain ⟨a1, a2⟩ := q.load (by omega) (n := ((pg s i : Nat) : Int)) (by omega) (f.page hi)
  have n1 := near_load p h ((pg s i : Nat) : Int)
  have h1 := f.from i
  have hb := q.sound.len
  unfold setS
  rw [if_pos (has_nat hi), if_pos hx, Int.toNat_natCast]
  dsimp only
  rw [a1, if_pos rfl]
  have hw2 := n1.writes
  have hpg : (loadP p h (pg s i)).2.1.pages = p.pages := n1.spages
  have htx : (loadP p h (pg s i)).2.1.text = p.text := n1.text
  have hll : (lay (b (pg s i)) (fr s i) x).length = (loadP p h (pg s i)).2.1.text := by rw [lay_len (by rw [hb, hx]; exact h1), hb, htx]
  obtain ⟨c1, c2⟩ := a2.save (by omega) (n := ((pg s i : Nat) : Int)) (by omega) (by rw [hpg]; exact f.page hi) hll
  exact ⟨c1, rfl, c2⟩
theorem pairL_q (q : Quiet p h b) (f : Fit s p) (hi : i < s.n) (hj : j < s.n) (hw : p.writes + 1 < 4294967295) : (pairL s p h i j).1 = (0, b (pg s i), b (pg s j)) ∧ Quiet (pairL s p h i j).2.1 (pairL s p h i j).2.2 b ∧ Near 4 2 p h (pairL s p h i j).2.1 (pairL s p h i j).2.2 := by
  obtain ⟨a1, a2⟩ := q.load (by omega) (n := ((pg s i : Nat) : Int)) (by omega) (f.page hi)
  have n1 := near_load p h ((pg s i : Nat) : Int)
  have hw2 := n1.writes
  unfold pairL
  dsimp only
  rw [a1, if_pos rfl]
  by_cases e : pg s j = pg s i
  · rw [if_pos e, e]
    exact ⟨rfl, a2, n1.trans (Near.refl 2 1 _ _) (by omega) (by omega)⟩
  · rw [if_neg e]
    obtain ⟨c1, c2⟩ := a2.load (by omega) (n := ((pg s j : Nat) : Int)) (by omega) (by rw [n1.spages]; exact f.page hj)
    have n2 := near_load (loadP p h (pg s i)).2.1 (loadP p h (pg s i)).2.2 ((pg s j : Nat) : Int)
    rw [c1, if_pos rfl]
    exact ⟨rfl, c2, n1.trans n2 (by omega) (by omega)⟩
theorem pairE_q (q : Quiet p h b) (f : Fit s p) (hi : i < s.n) (hj : j < s.n) (hw : p.writes + 1 < 4294967295) {x y : Bytes} (hx : x.length = s.size) (hy : y.length = s.size) : (pairE s p h i j (b (pg s i)) (b (pg s j)) x y).1 = 0 ∧ Quiet (pairE s p h i j (b (pg s i)) (b (pg s j)) x y).2.1 (pairE s p h i j (b (pg s i)) (b (pg s j)) x y).2.2 (putB s (putB s b i x) j y) := by
  have h1 := f.from i
  have h2 := f.from j
  have hb := q.sound.len
  have hl1 : (lay (b (pg s i)) (fr s i) x).length = p.text := by rw [lay_len (by rw [hb, hx]; exact h1), hb]
  unfold pairE
  by_cases e : pg s j = pg s i
  · rw [if_pos e]
    have hll : (lay (lay (b (pg s i)) (fr s i) x) (fr s j) y).length = p.text := by rw [lay_len (by rw [hl1, hy]; exact h2), hl1]
    obtain ⟨c1, c2⟩ := q.save (by omega) (n := ((pg s i : Nat) : Int)) (by omega) (f.page hi) hll
    refine ⟨c1, ?_⟩
    have : putB s (putB s b i x) j y = setF b ((pg s i : Nat) : Int) (lay (lay (b (pg s i)) (fr s i) x) (fr s j) y) := by
      funext n
      unfold putB setF
      rw [e, if_pos rfl]
      split <;> rfl
    rw [this]; exact c2
  · rw [if_neg e]
    obtain ⟨c1, c2⟩ := q.save (by omega) (n := ((pg s i : Nat) : Int)) (by omega) (f.page hi) hl1
    have n1 := near_save p h ((pg s i : Nat) : Int) (lay (b (pg s i)) (fr s i) x)
    have hw2 := n1.writes
    dsimp only
    rw [c1, if_pos rfl]
    have hl2 : (lay (b (pg s j)) (fr s j) y).length = (saveP p h (pg s i) (lay (b (pg s i)) (fr s i) x)).2.1.text := by rw [lay_len (by rw [hb, hy]; exact h2), hb, n1.text]
    obtain ⟨d1, d2⟩ := c2.save (by omega) (n := ((pg s j : Nat) : Int)) (by omega) (by rw [n1.spages]; exact f.page hj) hl2
    refine ⟨d1, ?_⟩
    have : putB s (putB s b i x) j y = setF (setF b ((pg s i : Nat) : Int) (lay (b (pg s i)) (fr s i) x)) ((pg s j : Nat) : Int) (lay (b (pg s j)) (fr s j) y) := by
      have e2 : putB s b i x ((pg s j : Nat) : Int) = b (pg s j) := by
        unfold putB setF
        rw [if_neg (by omega)]
      unfold putB at e2 ⊢
      rw [e2]
    rw [this]; exact d2
theorem get_near (s : SL) (p : PS) (h : HS) (i : Int) : Near 2 1 p h (getS s p h i).2.2.1 (getS s p h i).2.2.2 := by
  unfold getS
  split
  · exact near_load p h _
  · exact Near.refl 2 1 p h
theorem set_near (s : SL) (p : PS) (h : HS) (i : Int) (b : Bytes) : Near 3 2 p h (setS s p h i b).2.2.1 (setS s p h i b).2.2.2 := by
  unfold setS
  split
  · split
    · have n1 := near_load p h ((pg s i.toNat : Nat) : Int)
      dsimp only
      split
      · exact n1.trans (near_save _ _ _ _) (by omega) (by omega)
      · exact n1.trans (Near.refl 1 1 _ _) (by omega) (by omega)
    · exact Near.refl 3 2 p h
  · exact Near.refl 3 2 p h
theorem pairE_near (s : SL) (p : PS) (h : HS) (i j : Nat) (tI tJ a b : Bytes) : Near 2 2 p h (pairE s p h i j tI tJ a b).2.1 (pairE s p h i j tI tJ a b).2.2 := by
  unfold pairE
  split
  · exact (near_save p h _ _).trans (Near.refl 0 0 _ _) (by omega) (by omega)
  · dsimp only
    split
    · exact (near_save p h _ _).trans (near_save _ _ _ _) (by omega) (by omega)
    · exact (near_save p h _ _).trans (Near.refl 0 0 _ _) (by omega) (by omega)
end
end Go.Sl.SlotS
namespace Go.Sl
open Go Go.Proofs
attribute [local irreducible] pt own old pur ex all den denOps denS xOps xC cX CX xthen xblk xcut xloop xng retX resX Calls PV Rd Con
attribute [local irreducible] hostA pgA
open SlotS (SL Acc Fit)
def accs (x : Acc) : List Value := [.int .i64 x.1, .int .i64 x.2.1, .int .i64 x.2.2]
theorem accs_len (x : Acc) : (accs x).length = 3 := rfl
theorem acc_one (x : Acc) : (accs x).all oneC = true := rfl
theorem acc_ones (l : List Acc) : (l.flatMap accs).all oneC = true := by
  rw [List.all_eq_true]
  intro v hv
  obtain ⟨f, _, hv⟩ := List.mem_flatMap.1 hv
  exact List.all_eq_true.1 (acc_one f) v hv
abbrev slc (pp : Nat) (s : SL) (a : Option Addr) (c : Nat) : Array Value := #[hp pp, nvv s.first, nvv s.n, nvv s.size, nvv s.per, .slice a s.log.length c]
abbrev ownAcc (a : Option Addr) (c : Nat) (l : List Acc) : Asrt := own 151 3 (.slice a l.length c) l.length (l.flatMap accs)
abbrev slL (q pp : Nat) (s : SL) (a : Option Addr) (c : Nat) : List Asrt := [cl q (slc pp s a c) 137, ownAcc a c s.log]
def slB (q pp : Nat) (s : SL) (t : Option Addr × Nat) : Asrt := all (slL q pp s t.1 t.2)
def slA (q pp : Nat) (s : SL) : Asrt := ex (slB q pp s)
section
variable {q pp : Nat} {s : SL} {L : List Asrt}
theorem slA_mk {a : Option Addr} {c : Nat} : Imp (slL q pp s a c ++ L) (slA q pp s :: L) :=
  (Imp.app (L := slL q pp s a c)).trans (Imp.head fun f h => by unfold slA Sl.ex; exact Exists.intro (p := fun x => (slB q pp s x).on f) (a, c) h)
theorem Con.slA {F : FuncId} {args : List Value} {Φ : Value → List Asrt → Prop} (h : ∀ (a : Option Addr) (c : Nat), Con Tryz.prog F args (slL q pp s a c ++ L) Φ) : Con Tryz.prog F args (Sl.slA q pp s :: L) Φ :=
  Con.ex fun t => Con.pre (h t.1 t.2) (Imp.unapp (L := slL q pp s t.1 t.2))
end
section
variable {q pp : Nat} {s : SL} {a : Option Addr} {c : Nat}
theorem shas_x (i : Int) : Con Tryz.prog 78 [hp q, .int .i64 i] [cl q (slc pp s a c) 137] (fun r M => r = .bool (decide (SlotS.has s i)) ∧ M = [cl q (slc pp s a c) 137]) := by
  by_cases h0 : 0 ≤ i
  · by_cases h1 : i < (s.n : Int)
    · rw [decide_eq_true (show SlotS.has s i from ⟨h0, h1⟩)]
      refine fn_y Tryz.func78 Tryz.mixed ?_
      intro w0
      refine Y5 ?_
      refine Zhg (Zbq (b := 0) rfl rfl) ?_
      refine Zos 6 rfl (h0) ?_
      refine Y6 ?_
      first|refine Y0 ?_|(refine Zhh rfl ?_; (refine Zhg (Zbn (a := i) (b := (s.n : Int)) rfl rfl) ?_))
      refine Zos 13 rfl (h1) ?_
      refine V3 ?_
      refine rx1 (Zha rfl (Zg7)) ?_
      exact ⟨_, ⟨rfl, rfl⟩, qI⟩
    · rw [decide_eq_false (show ¬ SlotS.has s i from fun hh => h1 hh.2)]
      refine fn_y Tryz.func78 Tryz.mixed ?_
      intro w0
      refine Y5 ?_
      refine Zhg (Zbq (b := 0) rfl rfl) ?_
      refine Zos 6 rfl (h0) ?_
      refine Y6 ?_
      first|refine Y0 ?_|(refine Zhh rfl ?_; (refine Zhg (Zbn (a := i) (b := (s.n : Int)) rfl rfl) ?_))
      refine Zot 13 rfl (h1) ?_
      refine V3 ?_
      refine rx1 (Zha rfl (Zg7)) ?_
      exact ⟨_, ⟨rfl, rfl⟩, qI⟩
  · rw [decide_eq_false (show ¬ SlotS.has s i from fun hh => h0 hh.1)]
    refine fn_y Tryz.func78 Tryz.mixed ?_
    intro w0
    refine Y5 ?_
    refine Zhg (Zbq (b := 0) rfl rfl) ?_
    refine Zot 6 rfl (h0) ?_
    refine V10 ?_
    refine rx1 (Zha rfl (Zg7)) ?_
    exact ⟨_, ⟨rfl, rfl⟩, qI⟩
theorem stouch_x (k i j : Int) (hl : s.log.length ≤ 4000000000000) : Con Tryz.prog 79 [hp q, .int .i64 k, .int .i64 i, .int .i64 j] (slL q pp s a c) (fun r M => ∃ a' c', M = slL q pp (SlotS.touch s k i j) a' c') := by
  refine fn_y Tryz.func79 Tryz.mixed ?_
  intro w0
  refine Y9 ?_
  refine Zhg (Zdm (cs := (accs (k, i, j)).toArray) rfl) ?_
  refine Zh7 (cs := (accs (k, i, j)).toArray) (by omega) (by omega) (by exact fill_one rfl rfl) ?_; intro b17
  refine Zia rfl rfl qH (Rd.cl (xs := accs (k, i, j)) qH rfl qZ rfl) (by first|rfl|exact oneM_u8 _|exact oneL_u8 _|exact acc_one _|assumption|(simp [oneC]; done)) (by omega) qS ?_; intro a3 c3
  refine V4 ?_
  first|refine rx0 ?_|refine rx0n ?_
  refine ⟨_, ⟨a3, c3, rfl⟩, ?_⟩
  have e2 : (s.log ++ [(k, i, j)]).length = s.log.length + 1 := by simp
  have e3 : (s.log ++ [(k, i, j)]).flatMap accs = s.log.flatMap accs ++ accs (k, i, j) := by simp
  show Imp _ [cl q (slc pp { s with log := s.log ++ [(k, i, j)] } a3 c3) 137, ownAcc a3 c3 (s.log ++ [(k, i, j)])]
  unfold ownAcc slc
  dsimp only
  rw [e2, e3]
  exact qI
abbrev placeF (bf bs : Nat) : Value := .func (.func 115) #[] #[.pointer (some ⟨bf, 0, none⟩), .pointer (some ⟨bs, 0, none⟩)]
theorem splace_x (i : Nat) (h1 : 1 ≤ s.per) (hi : i ≤ 268435456) (hf : SlotS.fr s i ≤ 4096) (hp1 : SlotS.pg s i ≤ 65536) : Con Tryz.prog 80 [hp q, nvv i] [cl q (slc pp s a c) 137] (fun r M => ∃ bf bs, r = .tuple #[nvv (SlotS.pg s i), placeF bf bs] ∧ M = [cl bf #[nvv (SlotS.fr s i)] 3, cl bs #[hp q] 28, cl q (slc pp s a c) 137]) := by
  unfold SlotS.fr at hf
  unfold SlotS.pg at hp1
  refine fn_y Tryz.func80 Tryz.mixed ?_
  intro w0
  refine Y1 ?_
  refine Zh3 rfl ?_; intro b2
  refine V3 ?_
  refine Zij ([cl b2 #[hp q] 28, cl q (slc pp s a c) 137]) [6, 7, 8, 9, 11] (.q 0 (.r 1 (.q 2 (.q 3 (.r 4 (.q 5 (.r 6 (.r 7 (.r 8 (.r 9 (.q 10 (.a 11 (.e 12 false .nil))))))))))))) (by kernel_rfl) (by kernel_rfl) (Imp.arr qV) ?_
  refine W11 ?_
  refine Zir rfl (cs := #[.int .i64 0]) rfl ?_; intro b6
  refine Ziq rfl ?_
  refine Y1 ?_
  refine Zg3 ⟨(fun hh => Bool.noConfusion hh), ?_⟩
  refine Zik ?_
  refine Ct.o ?_
  refine Zij ([cl b6 #[nvv (i % s.per * s.size)] 3, cl b2 #[hp q] 28, cl q (slc pp s a c) 137]) [5, 6, 7, 8, 9] (.q 4 (.q 11 (.r 0 (.q 1 (.q 2 (.r 3 (.r 5 (.r 6 (.r 7 (.r 8 (.r 9 (.q 10 (.q 12 (.q 13 .nil)))))))))))))) (by kernel_rfl) (by kernel_rfl) (Imp.arr qV) ?_
  refine W15 ?_
  refine Ct.o ?_
  refine rx2 (Zg9 rfl (Zg8 rfl (Zg7))) ?_
  exact ⟨_, ⟨b6, b2, rfl, rfl⟩, qI⟩
theorem splaced_x {g n cp bf bs f : Nat} (hs : 1 ≤ s.size) (hfc : f + s.size ≤ n) (hnc : n ≤ cp) (hn : n ≤ 4096) : Con Tryz.prog 115 [.slice (some ⟨g, 0, none⟩) n cp, .pointer (some ⟨bf, 0, none⟩), .pointer (some ⟨bs, 0, none⟩)] [cl bf #[nvv f] 3, cl bs #[hp q] 28, cl q (slc pp s a c) 137] (fun r M => r = .slice (some ⟨g, f, none⟩) s.size (cp - f) ∧ M = [cl bf #[nvv f] 3, cl bs #[hp q] 28, cl q (slc pp s a c) 137]) := by
  have hsz : f + s.size - f = s.size := by omega
  refine fn_y Tryz.func115 Tryz.mixed ?_
  intro w0
  refine V3 ?_
  refine Zij ([cl bf #[nvv f] 3, cl bs #[hp q] 28, cl q (slc pp s a c) 137]) [2, 3, 4, 5, 6, 7] (.q 0 (.r 1 (.r 2 (.r 3 (.r 4 (.r 5 (.r 6 (.r 7 (.q 8 (.q 9 .nil)))))))))) (by kernel_rfl) (by kernel_rfl) (Imp.arr qV) ?_
  refine W8 ?_
  refine Zim rfl (Zna (l := f) (h := f + s.size) rfl rfl rfl (by omega) (by omega) (by omega)) ?_
  refine W2 ?_
  refine Ct.o ?_
  rw [hsz]
  refine rx1 (Zhc rfl (Zg7)) ?_
  exact ⟨_, ⟨rfl, rfl⟩, qI⟩
end
end Go.Sl
namespace Go.Sl
open Go
theorem or_add (a b i : Nat) (h : b < 2 ^ i) : a <<< i ||| b = a * 2 ^ i + b := by rw [← Nat.shiftLeft_add_eq_or_of_lt h, Nat.shiftLeft_eq]
abbrev W128.val (x : W128) : Nat := x.1.toNat + 18446744073709551616 * x.2.toNat
theorem quarter (f : W128) (hf : f.1.toNat % 4 = 0) : W128.val (f.1 >>> 2 ||| f.2 <<< 62, f.2 >>> 2) = f.val / 4 := by
  have h1 := f.1.isLt; have h2 := f.2.isLt
  have e : (f.1 >>> 2 ||| f.2 <<< 62).toNat = f.2.toNat % 4 * 4611686018427387904 + f.1.toNat / 4 := by
    rw [BitVec.toNat_or, BitVec.toNat_ushiftRight, BitVec.toNat_shiftLeft, Nat.shiftRight_eq_div_pow, Nat.or_comm]
    have e2 : f.2.toNat <<< 62 % 2 ^ 64 = (f.2.toNat % 4) <<< 62 := by
      rw [Nat.shiftLeft_eq, Nat.shiftLeft_eq]; omega
    rw [e2, or_add _ _ _ (by omega)]
  simp only [W128.val, e, BitVec.toNat_ushiftRight, Nat.shiftRight_eq_div_pow]
  omega
end Go.Sl
namespace Go.Sl
open Go
end Go.Sl
namespace Go.Sl
open Go Go.Proofs
attribute [local irreducible] pt own old pur ex all den denOps denS xOps xC cX CX xthen xblk xcut xloop xng retX resX Calls PV Rd Con
attribute [local irreducible] rotW
end Go.Sl
namespace Go.Sl
open Go Go.Proofs
attribute [local irreducible] pt own old pur ex all den denOps denS xOps xC cX CX xthen xblk xcut xloop xng retX resX Calls PV Rd Con
end Go.Sl
namespace Go.Sl
open Go Go.Proofs
attribute [local irreducible] pt own old pur ex all den denOps denS xOps xC cX CX xthen xblk xcut xloop xng retX resX Calls PV Rd Con
end Go.Sl
namespace Go.Sl
open Go Go.Proofs
attribute [local irreducible] pt own old pur ex all den denOps denS xOps xC cX CX xthen xblk xcut xloop xng retX resX Calls PV Rd Con
end Go.Sl
namespace Go.Sl
open Go Go.Proofs
attribute [local irreducible] pt own old pur ex all den denOps denS xOps xC cX CX xthen xblk xcut xloop xng retX resX Calls PV Rd Con
end Go.Sl
namespace Go.Sl
open Go Go.Proofs
attribute [local irreducible] pt own old pur ex all den denOps denS xOps xC cX CX xthen xblk xcut xloop xng retX resX Calls PV Rd Con
theorem x_own {P : Program} {w0 : World} {c : Code} {ρ : Env} {Q : XQ} {E n cp : Nat} {a : Option Addr} {xs : List Value} {M M' : List Asrt} (hm : Has M (own E 1 (.slice a n cp) n xs) M') (hn : 0 < n)
    (k : ∀ g rest, a = some ⟨g, 0, none⟩ → n ≤ cp → cp ≤ 9223372036854775807 → rest.length + n = cp → xC P w0 c ρ (cl g (xs ++ rest).toArray E :: M') Q) : xC P w0 c ρ M Q := by
  refine Zgu (α := { p : Nat × List Value // a = some ⟨p.1, 0, none⟩ ∧ n ≤ cp ∧ cp ≤ 9223372036854775807 ∧ p.2.length + n = cp }) (A := fun p => cl p.val.1 (xs ++ p.val.2).toArray E :: M') ?_ (fun p => k p.val.1 p.val.2 p.property.1 p.property.2.1 p.property.2.2.1 p.property.2.2.2)
  intro F w H
  rcases (H.pick (.there hm)).own_get with ⟨hv, rfl, _⟩|⟨g, cap, cur, hv, h2, h3, h4, h5, h6, H'⟩
  · omega
  · simp only [Value.slice.injEq] at hv
    obtain ⟨rfl, _, rfl⟩ := hv
    have e : cur = (xs ++ cur.toList.drop n).toArray := by
      rw [← h5, Nat.mul_one, List.take_append_drop]
    refine ⟨⟨(g, cur.toList.drop n), rfl, h2, h3, by rw [List.length_drop, Array.length_toList, h4]; omega⟩, ?_⟩
    dsimp only
    rw [← e]
    exact H'.swap
attribute [local irreducible] lowB
end Go.Sl
namespace Go.Sl
open Go Go.Proofs
attribute [local irreducible] pt own old pur ex all den denOps denS xOps xC cX CX xthen xblk xcut xloop xng retX resX Calls PV Rd Con
attribute [local irreducible] hostA pgA PagerS.loadP PagerS.saveP
open SlotS (SL Acc Fit)
open PagerS (PS Over)
theorem rd_part {M M' : List Asrt} {g f n k E : Nat} {B : List Byte} {rest : List Value} (hm : Has M (cl g (B.map u8b ++ rest).toArray E) M') (h : f + n ≤ B.length) : Rd M 1 (.slice (some ⟨g, f, none⟩) n k) n ((SlotS.part B f n).map u8b) := by
  have hl := SlotS.part_len (t := B) h
  refine Rd.cl (o := f) hm (by rw [List.length_map, hl, Nat.mul_one]) (by simp; omega) ?_
  rw [Nat.mul_one, Array.toList_extract, List.extract_eq_take_drop]
  show ((B.map u8b ++ rest).drop f).take (f + n - f) = _
  rw [show f + n - f = n by omega, List.drop_append_of_le_length (by simp; omega), List.take_append_of_le_length (by simp; omega)]
  unfold SlotS.part
  rw [List.map_take, List.map_drop]
theorem copy_all {l : List Byte} {n : Nat} (hl : l.length = n) : wr ((List.replicate n 0#8).map u8b).toArray 0 ((l.map u8b).take (min n n * 1)) = (l.map u8b).toArray := by
  rw [Nat.min_self, Nat.mul_one, List.take_of_length_le (by simp [hl])]
  have := wr_mid [] ((List.replicate n 0#8).map u8b) [] (l.map u8b) 0 rfl (by simp [hl])
  simpa using this
theorem copy_lay {B b : List Byte} {f n : Nat} {rest : List Value} (hb : b.length = n) (h : f + n ≤ B.length) : wr (B.map u8b ++ rest).toArray f ((b.map u8b).take (min b.length n * 1)) = ((SlotS.lay B f b).map u8b ++ rest).toArray := by
  rw [hb, Nat.min_self, Nat.mul_one, List.take_of_length_le (by simp [hb])]
  have e : B.map u8b ++ rest = (B.take f).map u8b ++ (((B.drop f).take n).map u8b ++ ((B.drop (f + n)).map u8b ++ rest)) := by
    have e1 : B = B.take f ++ ((B.drop f).take n ++ B.drop (f + n)) := by
      have h2 : B.drop (f + n) = (B.drop f).drop n := by rw [List.drop_drop]
      rw [h2, List.take_append_drop, List.take_append_drop]
    conv => lhs; rw [e1]
    simp
  rw [e]
  have := wr_mid ((B.take f).map u8b) (((B.drop f).take n).map u8b) ((B.drop (f + n)).map u8b ++ rest) (b.map u8b) f (by simp; omega) (by simp [hb]; omega)
  rw [this]
  unfold SlotS.lay
  simp [hb]
theorem lay_bs {M M' : List Asrt} {g n c E : Nat} {l : List Byte} {rest : List Value} (hm : Has M (cl g (l.map u8b ++ rest).toArray E) M') (hl : l.length = n) (hnc : n ≤ c) (hcm : c ≤ 9223372036854775807) : Bs M (.slice (some ⟨g, 0, none⟩) n c) l := by
  subst hl
  refine Bs.cl (o := 0) hm (by simp) ?_ hnc hcm
  rw [Nat.zero_add, Array.toList_extract, List.extract_eq_take_drop]
  show ((l.map u8b ++ rest).drop 0).take (l.length - 0) = _
  rw [List.drop_zero, Nat.sub_zero, List.take_append_of_le_length (by simp)]
  exact List.take_of_length_le (by simp)
theorem own_block {g n : Nat} {l : List Byte} (hl : l.length = n) (hn : n ≤ 9223372036854775807) {M : List Asrt} : Imp (cl g (l.map u8b).toArray 5 :: M) (ownB (some ⟨g, 0, none⟩) n l :: M) := by
  subst hl
  exact Imp.own_mk (n := l.length) (cap := l.length) (size := 1) (xs := l.map u8b) (Nat.le_refl _) hn (by simp) (by simp; exact List.take_of_length_le (by simp))
section
variable {q pp ph : Nat} {s : SL} {p : PS} {h : HostS.HS}
theorem pgs_ok {M M' : List Asrt} {F : Asrt} {w0 w : World} (hm : Has M (pgA pp ph p) M') (H : St w0 w (F :: M)) : PagerS.Ok p := by
  have H := H.pick (.there hm)
  unfold pgA at H
  obtain ⟨t, H⟩ := H.ex_get
  exact (St.pur_get (St.all_get H)).ok
theorem sget_x (f : Fit s p) (hk : PagerS.Ok p) (hov : Over p h) (hops : h.ops + 1 < 3518437208880) (hl : s.log.length ≤ 4000000000000) (i : Int) : Con Tryz.prog 35 [hp q, .int .i64 i] [slA q pp s, pgA pp ph p, hostA ph h] (fun r M => ∃ a c, r = .tuple #[.slice a (SlotS.getS s p h i).1.1.length c, nvv (SlotS.getS s p h i).1.2] ∧ M = [ownB a c (SlotS.getS s p h i).1.1, slA q pp (SlotS.getS s p h i).2.1, pgA pp ph (SlotS.getS s p h i).2.2.1, hostA ph (SlotS.getS s p h i).2.2.2]) := by
  refine Con.slA fun la lc => ?_
  simp only [List.cons_append, List.nil_append]
  by_cases hh : SlotS.has s i
  · obtain ⟨i, rfl⟩ : ∃ n : Nat, i = n := ⟨i.toNat, by have := hh.1; omega⟩
    have hin : i < s.n := by have := hh.2; omega
    have ht1 := hk.t1
    have hp1 := hk.p1
    have hpage := f.page hin
    have hfrom := f.from i
    have hsz1 := f.size
    have hll := fun he hk1 => SlotS.load_text (p := p) (h := h) (n := ((SlotS.pg s i : Nat) : Int)) he hk1
    have hld := load_x (p := pp) (ph := ph) hov (by omega) ((SlotS.pg s i : Nat) : Int)
    have e : SlotS.getS s p h (i : Int) = (if (PagerS.loadP p h (SlotS.pg s i : Nat)).1.2 = 0 then (SlotS.part (PagerS.loadP p h (SlotS.pg s i : Nat)).1.1 (SlotS.fr s i) s.size, 0) else ([], (PagerS.loadP p h (SlotS.pg s i : Nat)).1.2), SlotS.touch s 0 i 0, (PagerS.loadP p h (SlotS.pg s i : Nat)).2) := by
      unfold SlotS.getS
      rw [if_pos hh, Int.toNat_natCast]
    rw [e]
    have htc := fun a c => stouch_x (q := q) (pp := pp) (s := s) (a := a) (c := c) 0 i 0 hl
    have hpl := fun a c => splace_x (q := q) (pp := pp) (s := SlotS.touch s 0 i 0) (a := a) (c := c) i (f.touch 0 i 0).per1 (f.small hin hp1 ht1) (by show SlotS.fr s i ≤ 4096; omega) (by show SlotS.pg s i ≤ 65536; omega)
    have hpd := fun a c g n cp bf bs h1 h2 h3 => splaced_x (q := q) (pp := pp) (s := SlotS.touch s 0 i 0) (a := a) (c := c) (g := g) (n := n) (cp := cp) (bf := bf) (bs := bs) (f := SlotS.fr s i) f.size h1 h2 h3
    have e1 : SlotS.pg (SlotS.touch s 0 i 0) i = SlotS.pg s i := rfl
    have e2 : SlotS.fr (SlotS.touch s 0 i 0) i = SlotS.fr s i := rfl
    have e3 : (SlotS.touch s 0 i 0).size = s.size := rfl
    rw [e1, e2] at hpl
    rw [e3] at hpd
    generalize hs2 : SlotS.touch s 0 i 0 = s2 at *
    generalize (PagerS.loadP p h (SlotS.pg s i : Nat)).2.1 = p1 at *
    generalize (PagerS.loadP p h (SlotS.pg s i : Nat)).2.2 = h1 at *
    generalize (PagerS.loadP p h (SlotS.pg s i : Nat)).1.2 = er at *
    generalize (PagerS.loadP p h (SlotS.pg s i : Nat)).1.1 = B at *
    generalize SlotS.pg s i = pn at *
    generalize SlotS.fr s i = fn at *
    refine fn_y Tryz.func35 Tryz.mixed ?_
    intro w0
    refine Y7 ?_
    refine Zhn 12 rfl (rfl) ?_
    refine Y5 ?_
    refine Zor (c := shas_x (q := q) (pp := pp) (s := s) (a := la) (c := lc) i) (k := ?_)
    rintro _ _ ⟨rfl, rfl⟩
    refine Y1 ?_
    refine Zos 15 rfl (hh) ?_
    refine Zhg (Zb0 rfl) ?_
    refine Zhn 16 rfl (rfl) ?_
    refine Y5 ?_
    refine Zor (c := htc la lc) (k := ?_)
    rintro _ _ ⟨la2, lc2, rfl⟩
    refine Y5 ?_
    refine Zor (c := hpl la2 lc2) (k := ?_)
    rintro _ _ ⟨bf, bs, rfl, rfl⟩
    refine Y13 ?_
    refine Zor (c := hld) (k := ?_)
    rintro _ _ ⟨ta, tc, rfl, rfl⟩
    refine V7 ?_
    refine Zgt (fun F w H => pgs_ok (pp := pp) (ph := ph) (p := p1) qH H) ?_
    intro hk1
    by_cases he : er = 0
    · rw [if_pos he]
      have hB := hll he hk1
      have hpl2 : (SlotS.part B fn s.size).length = s.size := SlotS.part_len (by omega)
      refine Y3 ?_
      refine Zot 36 rfl ((fun hh => hh he)) ?_
      refine Y7 ?_
      refine Zm3 (f := u8b) (a := 0#8) rfl rfl rfl qS qS qS ?_; intro b42
      refine V2 ?_
      rw [e3]
      refine x_own (E := 5) (n := B.length) (a := ta) (cp := tc) qH (by omega) ?_
      intro g rest hg hc1 hc2 hr
      subst hg
      refine Y4 ?_
      refine Zor (c := hpd la2 lc2 g B.length tc bf bs (by omega) hc1 (by omega)) (k := ?_)
      rintro _ _ ⟨rfl, rfl⟩
      refine Y1 ?_
      refine Zib rfl rfl ((rd_part qH (by omega))) qR qZ (by first|rfl|exact oneM_u8 _|exact oneL_u8 _|exact acc_one _|assumption|(simp [oneC]; done)) (copy_all hpl2) ?_
      refine V6 ?_
      refine rx2 (Zhc rfl (Zg9 rfl (Zg7))) ?_
      refine ⟨_, ⟨some ⟨b42, 0, none⟩, s.size, by dsimp only; rw [hpl2]; rfl, rfl⟩, ?_⟩
      exact (Imp.arr (N := cl b42 ((SlotS.part B fn s.size).map u8b).toArray 5 :: slL q pp s2 la2 lc2 ++ [pgA pp ph p1, hostA ph h1]) qV).trans ((own_block hpl2 (by omega)).trans (Imp.cons (slA_mk (L := [pgA pp ph p1, hostA ph h1]))))
    · rw [if_neg he]
      refine Y3 ?_
      refine Zos 36 rfl (he) ?_
      refine V7 ?_
      refine rx2 (Zhc rfl (Zg9 rfl (Zg7))) ?_
      exact ⟨_, ⟨none, 0, rfl, rfl⟩, ((Imp.arr qV).trans (slA_mk (q := q) (pp := pp) (s := s2) (a := la2) (c := lc2) (L := [pgA pp ph p1, hostA ph h1]))).trans Imp.own_nil⟩
  · have e : SlotS.getS s p h i = (([], 2), s, p, h) := by unfold SlotS.getS; rw [if_neg hh]
    rw [e]
    refine fn_y Tryz.func35 Tryz.mixed ?_
    intro w0
    refine Y7 ?_
    refine Zhn 12 rfl (rfl) ?_
    refine Y5 ?_
    refine Zor (c := shas_x (q := q) (pp := pp) (s := s) (a := la) (c := lc) i) (k := ?_)
    rintro _ _ ⟨rfl, rfl⟩
    refine Y1 ?_
    refine Zot 15 rfl (hh) ?_
    refine Zhg (Zb0 rfl) ?_
    refine Zhm 16 rfl (rfl) ?_
    refine V6 ?_
    refine rx2 (Zhc rfl (Zg9 rfl (Zg7))) ?_
    exact ⟨_, ⟨none, 0, rfl, rfl⟩, ((Imp.arr qV).trans (slA_mk (q := q) (pp := pp) (s := s) (a := la) (c := lc) (L := [pgA pp ph p, hostA ph h]))).trans Imp.own_nil⟩
end
end Go.Sl
namespace Go.Sl
open Go Go.Proofs
attribute [local irreducible] pt own old pur ex all den denOps denS xOps xC cX CX xthen xblk xcut xloop xng retX resX Calls PV Rd Con
attribute [local irreducible] hostA pgA PagerS.loadP PagerS.saveP
open SlotS (SL Acc Fit)
open PagerS (PS Over)
section
variable {q pp ph : Nat} {s : SL} {p : PS} {h : HostS.HS}
theorem sl_small {F : FuncId} {args : List Value} {v : Value} (hc : ∀ a c, Con Tryz.prog F args [cl q (slc pp s a c) 137] (fun r M => r = v ∧ M = [cl q (slc pp s a c) 137])) : Con Tryz.prog F args [slA q pp s] (fun r M => r = v ∧ M = [slA q pp s]) :=
  Con.slA (L := []) fun a c => ((hc a c).frame (L := [ownAcc a c s.log])).mono fun r M ⟨M', h1, h2⟩ => by
    obtain ⟨h1, h3⟩ := h1
    subst h3 h2
    exact ⟨_, by simpa using slA_mk (q := q) (pp := pp) (s := s) (a := a) (c := c) (L := []), h1, rfl⟩
theorem slen_x : Con Tryz.prog 26 [hp q] [slA q pp s] (fun r M => r = nvv s.n ∧ M = [slA q pp s]) := sl_small fun a c => by
  refine fn_y Tryz.func26 Tryz.mixed ?_
  intro w0
  refine Y6 ?_
  refine Zhn 4 rfl (rfl) ?_
  refine V9 ?_
  refine rx1 (Zg9 rfl (Zg7)) ?_
  exact ⟨_, ⟨rfl, rfl⟩, qI⟩
theorem cloneA_x {L : List Asrt} {a : Option Addr} {c : Nat} {b : List Acc} (h : Rd L 3 (.slice a b.length c) b.length (b.flatMap accs)) (hl : b.length ≤ 4000000000001) : Con Tryz.prog 77 [.slice a b.length c] L (fun v M => ∃ a' c', v = .slice a' b.length c' ∧ M = ownAcc a' c' b :: L) := by
  cases ha : a.isNone with
  | true =>
    obtain rfl : a = none := by simpa using ha
    by_cases h0 : b.length = 0
    · obtain rfl : b = [] := List.eq_nil_of_length_eq_zero h0
      refine fn_y Tryz.func77 Tryz.mixed ?_
      intro w0
      refine Y6 ?_
      refine Zhm 4 rfl (rfl) ?_
      refine V5 ?_
      refine rx1 (Zhc rfl (Zg7)) ?_
      exact ⟨_, ⟨none, 0, rfl, rfl⟩, (Imp.arr (N := L) qV).trans Imp.own_nil⟩
    · refine Con.get (fun w0 w F H => h.someAt (by omega) H) ?_
      rintro ⟨s1, s2, hh⟩
      cases hh
  | false =>
    refine fn_y Tryz.func77 Tryz.mixed ?_
    intro w0
    refine Y6 ?_
    refine Zhn 4 rfl (ha) ?_
    refine Y3 ?_
    refine Zh7 (cs := #[]) (by omega) (by omega) rfl ?_; intro b5; refine Zgw ((Imp.arr (N := cl b5 #[] 151 :: L) qV).trans (Imp.own_mk (E := 151) (size := 3) (n := 0) (cap := 0) (xs := []) (by omega) (by omega) rfl rfl)) ?_
    refine Y1 ?_
    refine Zia rfl rfl qH (h.imp (Imp.arr qV)) (by first|rfl|exact oneM_u8 _|exact oneL_u8 _|exact acc_one _|exact acc_ones _|assumption|(simp [oneC]; done)) (by omega) qS ?_; intro a3 c3
    refine V2 ?_
    rw [Nat.zero_add, List.nil_append]
    refine rx1 (Zhc rfl (Zg7)) ?_
    exact ⟨_, ⟨a3, c3, rfl, rfl⟩, qI⟩
theorem slog_x (hl : s.log.length ≤ 4000000000001) : Con Tryz.prog 28 [hp q] [slA q pp s] (fun r M => ∃ a c, r = .slice a s.log.length c ∧ M = [ownAcc a c s.log, slA q pp s]) := by
  refine Con.slA fun la lc => ?_
  simp only [List.cons_append, List.nil_append]
  have hc := cloneA_x (L := [ownAcc la lc s.log]) (a := la) (c := lc) (b := s.log) (Rd.own .here) hl
  refine fn_y Tryz.func28 Tryz.mixed ?_
  intro w0
  refine Y6 ?_
  refine Zhn 4 rfl (rfl) ?_
  refine Y7 ?_
  refine Zor (c := hc) (k := ?_)
  rintro _ _ ⟨a, c, rfl, rfl⟩
  refine V3 ?_
  refine rx1 (Zhc rfl (Zg7)) ?_
  refine ⟨_, ⟨a, c, rfl, rfl⟩, ?_⟩
  exact (Imp.arr (N := ownAcc a c s.log :: (slL q pp s la lc ++ [])) qV).trans (Imp.cons (slA_mk (L := [])))
theorem sset_x {L : List Asrt} (f : Fit s p) (hk : PagerS.Ok p) (hov : Over p h) (hops : h.ops + 3 < 3518437208880) (hl : s.log.length ≤ 4000000000000) (i : Int) {vb : Value} {b : List Byte} (hb : Bs L vb b) : Con Tryz.prog 31 [hp q, .int .i64 i, vb] (slA q pp s :: pgA pp ph p :: hostA ph h :: L) (fun r M => r = nvv (SlotS.setS s p h i b).1 ∧ M = slA q pp (SlotS.setS s p h i b).2.1 :: pgA pp ph (SlotS.setS s p h i b).2.2.1 :: hostA ph (SlotS.setS s p h i b).2.2.2 :: L) := by
  refine Con.get (fun w0 w F H => hb.sh _ _ _ (H.enx (Imp.tail.trans (Imp.tail.trans Imp.tail)))) ?_
  rintro ⟨ba, bc, rfl, hbc, hbcm⟩
  refine Con.slA fun la lc => ?_
  simp only [List.cons_append, List.nil_append]
  have hback : ∀ (s : SL) (p : PS) (h : HostS.HS) (la : Option Addr) (lc : Nat), Imp (slL q pp s la lc ++ (pgA pp ph p :: hostA ph h :: L)) (slA q pp s :: pgA pp ph p :: hostA ph h :: L) := fun s p h la lc => slA_mk
  simp only [List.cons_append, List.nil_append] at hback
  by_cases hh : SlotS.has s i
  · by_cases hbl : b.length = s.size
    · obtain ⟨i, rfl⟩ : ∃ n : Nat, i = n := ⟨i.toNat, by have := hh.1; omega⟩
      have hin : i < s.n := by have := hh.2; omega
      have ht1 := hk.t1
      have hp1 := hk.p1
      have hpage := f.page hin
      have hfrom := f.from i
      have hsz1 := f.size
      have hll := fun he hk1 => SlotS.load_text (p := p) (h := h) (n := ((SlotS.pg s i : Nat) : Int)) he hk1
      have hld := load_x (p := pp) (ph := ph) hov (by omega) ((SlotS.pg s i : Nat) : Int)
      have hov1 := (PagerS.near_load p h ((SlotS.pg s i : Nat) : Int)).over hov
      have hop1 := (PagerS.near_load p h ((SlotS.pg s i : Nat) : Int)).ops
      have e : SlotS.setS s p h (i : Int) b = (if (PagerS.loadP p h (SlotS.pg s i : Nat)).1.2 = 0 then ((PagerS.saveP (PagerS.loadP p h (SlotS.pg s i : Nat)).2.1 (PagerS.loadP p h (SlotS.pg s i : Nat)).2.2 (SlotS.pg s i : Nat) (SlotS.lay (PagerS.loadP p h (SlotS.pg s i : Nat)).1.1 (SlotS.fr s i) b)).1, SlotS.touch s 1 i 0, (PagerS.saveP (PagerS.loadP p h (SlotS.pg s i : Nat)).2.1 (PagerS.loadP p h (SlotS.pg s i : Nat)).2.2 (SlotS.pg s i : Nat) (SlotS.lay (PagerS.loadP p h (SlotS.pg s i : Nat)).1.1 (SlotS.fr s i) b)).2) else ((PagerS.loadP p h (SlotS.pg s i : Nat)).1.2, SlotS.touch s 1 i 0, ((PagerS.loadP p h (SlotS.pg s i : Nat)).2.1, (PagerS.loadP p h (SlotS.pg s i : Nat)).2.2))) := by
        unfold SlotS.setS
        rw [if_pos hh, if_pos hbl, Int.toNat_natCast]
      rw [e]
      have htc := fun a c => stouch_x (q := q) (pp := pp) (s := s) (a := a) (c := c) 1 i 0 hl
      have hpl := fun a c => splace_x (q := q) (pp := pp) (s := SlotS.touch s 1 i 0) (a := a) (c := c) i (f.touch 1 i 0).per1 (f.small hin hp1 ht1) (by show SlotS.fr s i ≤ 4096; omega) (by show SlotS.pg s i ≤ 65536; omega)
      have hpd := fun a c g n cp bf bs h1 h2 h3 => splaced_x (q := q) (pp := pp) (s := SlotS.touch s 1 i 0) (a := a) (c := c) (g := g) (n := n) (cp := cp) (bf := bf) (bs := bs) (f := SlotS.fr s i) f.size h1 h2 h3
      have e1 : SlotS.pg (SlotS.touch s 1 i 0) i = SlotS.pg s i := rfl
      have e2 : SlotS.fr (SlotS.touch s 1 i 0) i = SlotS.fr s i := rfl
      have e3 : (SlotS.touch s 1 i 0).size = s.size := rfl
      rw [e1, e2] at hpl
      rw [e3] at hpd
      generalize hs2 : SlotS.touch s 1 i 0 = s2 at *
      generalize (PagerS.loadP p h (SlotS.pg s i : Nat)).2.1 = p1 at *
      generalize (PagerS.loadP p h (SlotS.pg s i : Nat)).2.2 = h1 at *
      generalize (PagerS.loadP p h (SlotS.pg s i : Nat)).1.2 = er at *
      generalize (PagerS.loadP p h (SlotS.pg s i : Nat)).1.1 = B at *
      generalize SlotS.pg s i = pn at *
      generalize SlotS.fr s i = fn at *
      refine fn_y Tryz.func31 Tryz.mixed ?_
      intro w0
      refine Y6 ?_
      refine Zhn 12 rfl (rfl) ?_
      refine Y5 ?_
      refine Zor (c := shas_x (q := q) (pp := pp) (s := s) (a := la) (c := lc) i) (k := ?_)
      rintro _ _ ⟨rfl, rfl⟩
      refine Y1 ?_
      refine Zos 15 rfl (hh) ?_
      refine Zhg (Zb0 rfl) ?_
      refine Zhn 16 rfl (rfl) ?_
      refine Y9 ?_
      refine Zhg (Zmk (a := b.length) (b := s.size) rfl rfl) ?_
      refine Zot 23 rfl ((fun hh => hh hbl)) ?_
      refine Y5 ?_
      refine Zor (c := htc la lc) (k := ?_)
      rintro _ _ ⟨la2, lc2, rfl⟩
      refine Y5 ?_
      refine Zor (c := hpl la2 lc2) (k := ?_)
      rintro _ _ ⟨bf, bs, rfl, rfl⟩
      refine Y13 ?_
      refine Zor (c := hld) (k := ?_)
      rintro _ _ ⟨ta, tc, rfl, rfl⟩
      refine V7 ?_
      refine Zgt (fun F w H => pgs_ok (pp := pp) (ph := ph) (p := p1) qH H) ?_
      intro hk1
      by_cases he : er = 0
      · rw [if_pos he]
        have hB := hll he hk1
        have hlayl := SlotS.lay_len (t := B) (b := b) (a := fn) (by omega)
        refine Y3 ?_
        refine Zot 43 rfl ((fun hh => hh he)) ?_
        refine V2 ?_
        refine x_own (E := 5) (n := B.length) (a := ta) (cp := tc) qH (by omega) ?_
        intro g rest hg hc1 hc2 hr
        subst hg
        have hsv := save_x (p := pp) (ph := ph) (s := p1) (h := h1) (L := [cl g ((SlotS.lay B fn b).map u8b ++ rest).toArray 5]) hov1 (by omega) (pn : Int) (lay_bs (n := B.length) (c := tc) .here hlayl hc1 hc2)
        refine Y3 ?_
        refine Zor (c := hpd la2 lc2 g B.length tc bf bs (by omega) hc1 (by omega)) (k := ?_)
        rintro _ _ ⟨rfl, rfl⟩
        refine Y2 ?_
        refine Zib rfl rfl ((hb.rd.imp (Imp.arr qV))) qR qZ (by first|rfl|exact oneM_u8 _|exact oneL_u8 _|exact acc_one _|exact acc_ones _|assumption|(simp [oneC]; done)) (copy_lay (B := B) (f := fn) (rest := rest) hbl (by omega)) ?_
        refine Y8 ?_
        refine Zor (c := hsv) (k := ?_)
        rintro _ _ ⟨rfl, rfl⟩
        refine V3 ?_
        refine rx1 (Zg9 rfl (Zg7)) ?_
        refine ⟨_, ⟨rfl, rfl⟩, ?_⟩
        exact (Imp.arr qV).trans (hback s2 _ _ la2 lc2)
      · rw [if_neg he]
        refine Y3 ?_
        refine Zos 43 rfl (he) ?_
        refine V6 ?_
        refine rx1 (Zg9 rfl (Zg7)) ?_
        exact ⟨_, ⟨rfl, rfl⟩, (Imp.arr qV).trans (hback s2 _ _ la2 lc2)⟩
    · have e : SlotS.setS s p h i b = (4, s, p, h) := by unfold SlotS.setS; rw [if_pos hh, if_neg hbl]
      rw [e]
      refine fn_y Tryz.func31 Tryz.mixed ?_
      intro w0
      refine Y6 ?_
      refine Zhn 12 rfl (rfl) ?_
      refine Y5 ?_
      refine Zor (c := shas_x (q := q) (pp := pp) (s := s) (a := la) (c := lc) i) (k := ?_)
      rintro _ _ ⟨rfl, rfl⟩
      refine Y1 ?_
      refine Zos 15 rfl (hh) ?_
      refine Zhg (Zb0 rfl) ?_
      refine Zhn 16 rfl (rfl) ?_
      refine Y9 ?_
      refine Zhg (Zmk (a := b.length) (b := s.size) rfl rfl) ?_
      refine Zos 23 rfl (hbl) ?_
      refine V5 ?_
      refine rx1 (Zg9 rfl (Zg7)) ?_
      exact ⟨_, ⟨rfl, rfl⟩, (Imp.arr qV).trans (hback s p h la lc)⟩
  · have e : SlotS.setS s p h i b = (2, s, p, h) := by unfold SlotS.setS; rw [if_neg hh]
    rw [e]
    refine fn_y Tryz.func31 Tryz.mixed ?_
    intro w0
    refine Y6 ?_
    refine Zhn 12 rfl (rfl) ?_
    refine Y5 ?_
    refine Zor (c := shas_x (q := q) (pp := pp) (s := s) (a := la) (c := lc) i) (k := ?_)
    rintro _ _ ⟨rfl, rfl⟩
    refine Y1 ?_
    refine Zot 15 rfl (hh) ?_
    refine Zhg (Zb0 rfl) ?_
    refine Zhm 16 rfl (rfl) ?_
    refine V5 ?_
    refine rx1 (Zg9 rfl (Zg7)) ?_
    exact ⟨_, ⟨rfl, rfl⟩, (Imp.arr qV).trans (hback s p h la lc)⟩
end
end Go.Sl
namespace Go.Sl
open Go Go.Proofs
attribute [local irreducible] pt own old pur ex all den denOps denS xOps xC cX CX xthen xblk xcut xloop xng retX resX Calls PV Rd Con
attribute [local irreducible] hostA pgA
open SlotS (SL Acc Fit)
open PagerS (PS Over)
theorem take_le {n per : Nat} (h1 : 1 ≤ per) (hn : n ≤ 9223372036854775807) (h0 : n % per ≠ 0) : n / per + 1 ≤ 9223372036854775807 := by
  have h2 : 2 ≤ per := by
    by_cases e : per = 1
    · subst e; omega
    · omega
  have : n / per ≤ n / 2 := Nat.div_le_div_left h2 (by omega)
  omega
theorem spages_x (n per : Nat) (h1 : 1 ≤ per) (hn : n ≤ 9223372036854775807) : Con Tryz.prog 72 [nvv n, nvv per] [] (fun r M => r = nvv (SlotS.takeN n per) ∧ M = []) := by
  unfold SlotS.takeN
  by_cases h0 : n % per = 0
  · rw [if_pos h0, Nat.add_zero]
    refine fn_y Tryz.func72 Tryz.mixed ?_
    intro w0
    refine Y14 ?_
    refine Zot 12 rfl ((fun hh => hh h0)) ?_
    refine V6 ?_
    refine rx1 (Zg9 rfl (Zg7)) ?_
    exact ⟨_, ⟨rfl, rfl⟩, qI⟩
  · rw [if_neg h0]
    have := take_le h1 hn h0
    refine fn_y Tryz.func72 Tryz.mixed ?_
    intro w0
    refine Y14 ?_
    refine Zos 12 rfl (h0) ?_
    refine V11 ?_
    refine rx1 (Zg9 rfl (Zg7)) ?_
    exact ⟨_, ⟨rfl, rfl⟩, qI⟩
section
variable {pp ph : Nat} {p : PS}
theorem slnew_x (hk : PagerS.Ok p) (first n size : Int) (hf : first ≤ 9223372036854775807) (hn : n ≤ 9223372036854775807) (hz : size ≤ 9223372036854775807) : Con Tryz.prog 17 [hp pp, .int .i64 first, .int .i64 n, .int .i64 size] [pgA pp ph p] (fun r M => (SlotS.newS first n size p = 0 ∧ ∃ q, r = .tuple #[hp q, nvv 0] ∧ M = [slA q pp (SlotS.freshS first n size p), pgA pp ph p]) ∨ (SlotS.newS first n size p ≠ 0 ∧ r = .tuple #[.pointer none, nvv (SlotS.newS first n size p)] ∧ M = [pgA pp ph p])) := by
  have ht1 := hk.t1
  have hp0 := hk.p0
  have hp1 := hk.p1
  unfold SlotS.newS
  by_cases h1 : first < 0
  · rw [if_pos (.inl h1)]
    refine fn_y Tryz.func17 Tryz.mixed ?_
    intro w0
    refine Y7 ?_
    refine Zhn 12 rfl (rfl) ?_
    refine Y4 ?_
    refine Zhg (Zbn (b := 0) rfl rfl) ?_
    refine Zos 14 rfl (h1) ?_
    refine V14 ?_
    refine rx2 (Zhb rfl (Zg9 rfl (Zg7))) ?_
    exact ⟨_, .inr ⟨by omega, rfl, rfl⟩, qI⟩
  by_cases h2 : n < 0
  · rw [if_pos (.inr (.inl h2))]
    refine fn_y Tryz.func17 Tryz.mixed ?_
    intro w0
    refine Y7 ?_
    refine Zhn 12 rfl (rfl) ?_
    refine Y4 ?_
    refine Zhg (Zbn (b := 0) rfl rfl) ?_
    refine Zot 14 rfl (h1) ?_
    refine Y2 ?_
    first|refine Y0 ?_|(refine Zhh rfl ?_; (refine Zhg (Zbn (b := 0) rfl rfl) ?_))
    refine Zos 17 rfl (h2) ?_
    refine V11 ?_
    refine rx2 (Zhb rfl (Zg9 rfl (Zg7))) ?_
    exact ⟨_, .inr ⟨by omega, rfl, rfl⟩, qI⟩
  by_cases h3 : size < 1
  · rw [if_pos (.inr (.inr h3))]
    refine fn_y Tryz.func17 Tryz.mixed ?_
    intro w0
    refine Y7 ?_
    refine Zhn 12 rfl (rfl) ?_
    refine Y4 ?_
    refine Zhg (Zbn (b := 0) rfl rfl) ?_
    refine Zot 14 rfl (h1) ?_
    refine Y2 ?_
    first|refine Y0 ?_|(refine Zhh rfl ?_; (refine Zhg (Zbn (b := 0) rfl rfl) ?_))
    refine Zot 17 rfl (h2) ?_
    refine Y3 ?_
    first|refine Y0 ?_|(refine Zhh rfl ?_; (refine Zhg (Zbn (b := 1) rfl rfl) ?_))
    refine Zos 21 rfl (h3) ?_
    refine V7 ?_
    refine rx2 (Zhb rfl (Zg9 rfl (Zg7))) ?_
    exact ⟨_, .inr ⟨by omega, rfl, rfl⟩, qI⟩
  rw [if_neg (show ¬ (first < 0 ∨ n < 0 ∨ size < 1) by omega)]
  by_cases h4 : (p.text : Int) < size
  · rw [if_pos h4]
    refine fn_y Tryz.func17 Tryz.mixed ?_
    intro w0
    refine Y7 ?_
    refine Zhn 12 rfl (rfl) ?_
    refine Y4 ?_
    refine Zhg (Zbn (b := 0) rfl rfl) ?_
    refine Zot 14 rfl (h1) ?_
    refine Y2 ?_
    first|refine Y0 ?_|(refine Zhh rfl ?_; (refine Zhg (Zbn (b := 0) rfl rfl) ?_))
    refine Zot 17 rfl (h2) ?_
    refine Y3 ?_
    first|refine Y0 ?_|(refine Zhh rfl ?_; (refine Zhg (Zbn (b := 1) rfl rfl) ?_))
    refine Zot 21 rfl (h3) ?_
    refine Y6 ?_
    refine Zor (c := text_p (p := pp) (ph := ph)) (k := ?_)
    rintro _ _ ⟨rfl, rfl⟩
    refine Y1 ?_
    refine Zhg (Zbp (a := size) (b := (p.text : Int)) rfl rfl) ?_
    refine Zos 26 rfl (h4) ?_
    refine V6 ?_
    refine rx2 (Zhb rfl (Zg9 rfl (Zg7))) ?_
    exact ⟨_, .inr ⟨by omega, rfl, rfl⟩, qI⟩
  rw [if_neg h4]
  obtain ⟨f, rfl⟩ : ∃ k : Nat, first = k := ⟨first.toNat, by omega⟩
  obtain ⟨n, rfl⟩ : ∃ k : Nat, n = k := ⟨n.toNat, by omega⟩
  obtain ⟨z, rfl⟩ : ∃ k : Nat, size = k := ⟨size.toNat, by omega⟩
  simp only [Int.toNat_natCast]
  have ef : SlotS.freshS (f : Int) (n : Int) (z : Int) p = ⟨f, n, z, p.text / z, []⟩ := rfl
  rw [ef]
  have hd : 1 ≤ p.text / z := Nat.div_pos (by omega) (by omega)
  have hd2 : p.text / z ≤ 4096 := Nat.le_trans (Nat.div_le_self _ _) ht1
  have hpx := spages_x n (p.text / z) hd (by omega)
  by_cases h5 : p.pages < (f : Int)
  · rw [if_pos (.inl h5)]
    refine fn_y Tryz.func17 Tryz.mixed ?_
    intro w0
    refine Y7 ?_
    refine Zhn 12 rfl (rfl) ?_
    refine Y4 ?_
    refine Zhg (Zbn (a := (f : Int)) (b := 0) rfl rfl) ?_
    refine Zot 14 rfl (h1) ?_
    refine Y2 ?_
    first|refine Y0 ?_|(refine Zhh rfl ?_; (refine Zhg (Zbn (a := (n : Int)) (b := 0) rfl rfl) ?_))
    refine Zot 17 rfl (h2) ?_
    refine Y3 ?_
    first|refine Y0 ?_|(refine Zhh rfl ?_; (refine Zhg (Zbn (a := (z : Int)) (b := 1) rfl rfl) ?_))
    refine Zot 21 rfl (h3) ?_
    refine Y6 ?_
    refine Zor (c := text_p (p := pp) (ph := ph)) (k := ?_)
    rintro _ _ ⟨rfl, rfl⟩
    refine Y1 ?_
    refine Zhg (Zbp (a := (z : Int)) (b := (p.text : Int)) rfl rfl) ?_
    refine Zot 26 rfl (h4) ?_
    refine Y8 ?_
    refine Zor (c := text_p (p := pp) (ph := ph)) (k := ?_)
    rintro _ _ ⟨rfl, rfl⟩
    refine Y3 ?_
    refine Zhg (Zdm (cs := slc pp ⟨f, n, z, p.text / z, []⟩ none 0) rfl) ?_
    refine Zh5 rfl ?_; intro b36
    refine Y5 ?_
    refine Zor (c := pages_p (p := pp) (ph := ph)) (k := ?_)
    rintro _ _ ⟨rfl, rfl⟩
    refine Y1 ?_
    refine Zhg (Zbp (a := (f : Int)) (b := p.pages) rfl rfl) ?_
    refine Zos 40 rfl (h5) ?_
    refine V19 ?_
    refine rx2 (Zhb rfl (Zg9 rfl (Zg7))) ?_
    exact ⟨_, .inr ⟨by omega, rfl, rfl⟩, qI⟩
  by_cases h6 : p.pages - (f : Int) < SlotS.takeN n (p.text / z)
  · rw [if_pos (.inr h6)]
    refine fn_y Tryz.func17 Tryz.mixed ?_
    intro w0
    refine Y7 ?_
    refine Zhn 12 rfl (rfl) ?_
    refine Y4 ?_
    refine Zhg (Zbn (a := (f : Int)) (b := 0) rfl rfl) ?_
    refine Zot 14 rfl (h1) ?_
    refine Y2 ?_
    first|refine Y0 ?_|(refine Zhh rfl ?_; (refine Zhg (Zbn (a := (n : Int)) (b := 0) rfl rfl) ?_))
    refine Zot 17 rfl (h2) ?_
    refine Y3 ?_
    first|refine Y0 ?_|(refine Zhh rfl ?_; (refine Zhg (Zbn (a := (z : Int)) (b := 1) rfl rfl) ?_))
    refine Zot 21 rfl (h3) ?_
    refine Y6 ?_
    refine Zor (c := text_p (p := pp) (ph := ph)) (k := ?_)
    rintro _ _ ⟨rfl, rfl⟩
    refine Y1 ?_
    refine Zhg (Zbp (a := (z : Int)) (b := (p.text : Int)) rfl rfl) ?_
    refine Zot 26 rfl (h4) ?_
    refine Y8 ?_
    refine Zor (c := text_p (p := pp) (ph := ph)) (k := ?_)
    rintro _ _ ⟨rfl, rfl⟩
    refine Y3 ?_
    refine Zhg (Zdm (cs := slc pp ⟨f, n, z, p.text / z, []⟩ none 0) rfl) ?_
    refine Zh5 rfl ?_; intro b36
    refine Y5 ?_
    refine Zor (c := pages_p (p := pp) (ph := ph)) (k := ?_)
    rintro _ _ ⟨rfl, rfl⟩
    refine Y1 ?_
    refine Zhg (Zbp (a := (f : Int)) (b := p.pages) rfl rfl) ?_
    refine Zot 40 rfl (h5) ?_
    refine Y6 ?_
    first|refine Y0 ?_|(refine Zhh rfl ?_; (refine Zor (c := hpx) (k := ?_)); (rintro _ _ ⟨rfl, rfl⟩); (refine Zg2 qA ?_))
    refine Y1 ?_
    first|refine Y0 ?_|(refine Zhh rfl ?_; (refine Zor (c := pages_p (p := pp) (ph := ph)) (k := ?_)); (rintro _ _ ⟨rfl, rfl⟩); (refine Zg2 qA ?_))
    refine Y1 ?_
    first|refine Y0 ?_|(refine Zhh rfl ?_; (refine Zhg (Zbh (a := p.pages) (b := (f : Int)) rfl rfl (by omega)) ?_))
    first|refine Y0 ?_|(refine Zhh rfl ?_; (refine Zhg (Zbp (a := ((SlotS.takeN n (p.text / z) : Nat) : Int)) (b := p.pages - (f : Int)) rfl rfl) ?_))
    refine Zos 52 rfl (h6) ?_
    refine V7 ?_
    refine rx2 (Zhb rfl (Zg9 rfl (Zg7))) ?_
    exact ⟨_, .inr ⟨by omega, rfl, rfl⟩, qI⟩
  · rw [if_neg (show ¬ (p.pages < (f : Int) ∨ p.pages - (f : Int) < SlotS.takeN n (p.text / z)) by omega)]
    refine fn_y Tryz.func17 Tryz.mixed ?_
    intro w0
    refine Y7 ?_
    refine Zhn 12 rfl (rfl) ?_
    refine Y4 ?_
    refine Zhg (Zbn (a := (f : Int)) (b := 0) rfl rfl) ?_
    refine Zot 14 rfl (h1) ?_
    refine Y2 ?_
    first|refine Y0 ?_|(refine Zhh rfl ?_; (refine Zhg (Zbn (a := (n : Int)) (b := 0) rfl rfl) ?_))
    refine Zot 17 rfl (h2) ?_
    refine Y3 ?_
    first|refine Y0 ?_|(refine Zhh rfl ?_; (refine Zhg (Zbn (a := (z : Int)) (b := 1) rfl rfl) ?_))
    refine Zot 21 rfl (h3) ?_
    refine Y6 ?_
    refine Zor (c := text_p (p := pp) (ph := ph)) (k := ?_)
    rintro _ _ ⟨rfl, rfl⟩
    refine Y1 ?_
    refine Zhg (Zbp (a := (z : Int)) (b := (p.text : Int)) rfl rfl) ?_
    refine Zot 26 rfl (h4) ?_
    refine Y8 ?_
    refine Zor (c := text_p (p := pp) (ph := ph)) (k := ?_)
    rintro _ _ ⟨rfl, rfl⟩
    refine Y3 ?_
    refine Zhg (Zdm (cs := slc pp ⟨f, n, z, p.text / z, []⟩ none 0) rfl) ?_
    refine Zh5 rfl ?_; intro b36
    refine Y5 ?_
    refine Zor (c := pages_p (p := pp) (ph := ph)) (k := ?_)
    rintro _ _ ⟨rfl, rfl⟩
    refine Y1 ?_
    refine Zhg (Zbp (a := (f : Int)) (b := p.pages) rfl rfl) ?_
    refine Zot 40 rfl (h5) ?_
    refine Y6 ?_
    first|refine Y0 ?_|(refine Zhh rfl ?_; (refine Zor (c := hpx) (k := ?_)); (rintro _ _ ⟨rfl, rfl⟩); (refine Zg2 qA ?_))
    refine Y1 ?_
    first|refine Y0 ?_|(refine Zhh rfl ?_; (refine Zor (c := pages_p (p := pp) (ph := ph)) (k := ?_)); (rintro _ _ ⟨rfl, rfl⟩); (refine Zg2 qA ?_))
    refine Y1 ?_
    first|refine Y0 ?_|(refine Zhh rfl ?_; (refine Zhg (Zbh (a := p.pages) (b := (f : Int)) rfl rfl (by omega)) ?_))
    first|refine Y0 ?_|(refine Zhh rfl ?_; (refine Zhg (Zbp (a := ((SlotS.takeN n (p.text / z) : Nat) : Int)) (b := p.pages - (f : Int)) rfl rfl) ?_))
    refine Zot 52 rfl (h6) ?_
    refine V8 ?_
    refine rx2 (Zhb rfl (Zg9 rfl (Zg7))) ?_
    refine ⟨_, .inl ⟨rfl, b36, rfl, rfl⟩, ?_⟩
    exact ((Imp.arr (N := cl b36 (slc pp ⟨f, n, z, p.text / z, []⟩ none 0) 137 :: [pgA pp ph p]) qV).trans (Imp.own_nil (E := 151) (size := 3))).trans ((Imp.arr (N := slL b36 pp ⟨f, n, z, p.text / z, []⟩ none 0 ++ [pgA pp ph p]) qV).trans slA_mk)
theorem slnew_ok (hk : PagerS.Ok p) {first n size : Int} (hf : first ≤ 9223372036854775807) (hn : n ≤ 9223372036854775807) (hz : size ≤ 9223372036854775807) (h : SlotS.newS first n size p = 0) : Con Tryz.prog 17 [hp pp, .int .i64 first, .int .i64 n, .int .i64 size] [pgA pp ph p] (fun r M => ∃ q, r = .tuple #[hp q, nvv 0] ∧ M = [slA q pp (SlotS.freshS first n size p), pgA pp ph p]) :=
  (slnew_x hk first n size hf hn hz).mono fun r M hh => by
    rcases hh with ⟨_, q, h1, h2⟩|⟨hne, _⟩
    · exact ⟨M, Imp.refl _, q, h1, h2⟩
    · exact absurd h hne
end
end Go.Sl
namespace Go.Sl
open Go Go.Proofs
attribute [local irreducible] pt own old pur ex all den denOps denS xOps xC cX CX xthen xblk xcut xloop xng retX resX Calls PV Rd Con
attribute [local irreducible] hostA pgA
open SlotS (SL Acc Fit)
open PagerS (PS Over)
abbrev nilF : Value := .slice none 0 0
abbrev hsN (pn n : Nat) : HostS.HS := HostS.fresh (pn : Int) (n + 28) []
abbrev psN (key : List Byte) (round : BitVec 64) (wn pn n : Nat) : PS := PagerS.freshP key round wn (pn : Int) n
abbrev Big (n : Int) : Prop := -9223372036854775808 ≤ n ∧ n ≤ 9223372036854775807
end Go.Sl
namespace Go.Sl
open Go Go.Proofs
attribute [local irreducible] pt own old pur ex all den denOps denS xOps xC cX CX xthen xblk xcut xloop xng retX resX Calls PV Rd Con
attribute [local irreducible] hostA pgA PagerS.loadP PagerS.saveP
open SlotS (SL Acc Fit)
open PagerS (PS Over)
abbrev fsl (g n : Nat) : Value := .slice (some ⟨g, 0, none⟩) n n
abbrev blk (g : Nat) (l : List Byte) : Asrt := cl g (l.map u8b).toArray 5
structure FCon (F : FuncId) (fi ca : Array Value) (n : Nat) (X : List Asrt) (φ : List Byte → List Byte → List Byte × List Byte) (Y : List Byte → List Byte → Nat → Nat → List Asrt → Prop) : Prop where
  callable : callable Tryz.prog F = true
  len : ∀ A B, A.length = n → B.length = n → (φ A B).1.length = n ∧ (φ A B).2.length = n
  con : ∀ a b A B, A.length = n → B.length = n → Con Tryz.prog F (fi.toList ++ [fsl a n, fsl b n] ++ ca.toList) (blk a A :: blk b B :: X) (fun r M => ∃ Z, Y A B a b Z ∧ M = blk a (φ A B).1 :: blk b (φ A B).2 :: Z)
section
variable {q pp ph : Nat} {s : SL} {p : PS} {h : HostS.HS} {F : FuncId} {fi ca : Array Value} {X : List Asrt} {φ : List Byte → List Byte → List Byte × List Byte} {Y : List Byte → List Byte → Nat → Nat → List Asrt → Prop}
theorem pair_same (f : Fit s p) (hk : PagerS.Ok p) (hov : Over p h) (hops : h.ops + 6 < 3518437208880) (hl : s.log.length ≤ 4000000000000) {i j : Nat} (hi : i < s.n) (hj : j < s.n) (hij : i ≠ j) (hc : FCon F fi ca s.size X φ Y) (hpg : SlotS.pg s j = SlotS.pg s i) (he : (PagerS.loadP p h (SlotS.pg s i : Nat)).1.2 = 0) :
    Con Tryz.prog 32 [hp q, nvv i, nvv j, .func (.func F) fi ca] (slA q pp s :: pgA pp ph p :: hostA ph h :: X) (fun r M => ∃ A B E, A = SlotS.part (PagerS.loadP p h (SlotS.pg s i : Nat)).1.1 (SlotS.fr s i) s.size ∧ B = SlotS.part (PagerS.loadP p h (SlotS.pg s i : Nat)).1.1 (SlotS.fr s j) s.size ∧ E = PagerS.saveP (PagerS.loadP p h (SlotS.pg s i : Nat)).2.1 (PagerS.loadP p h (SlotS.pg s i : Nat)).2.2 (SlotS.pg s i : Nat) (SlotS.lay (SlotS.lay (PagerS.loadP p h (SlotS.pg s i : Nat)).1.1 (SlotS.fr s i) (φ A B).1) (SlotS.fr s j) (φ A B).2) ∧ r = nvv E.1 ∧ ∃ a b Z, Y A B a b Z ∧ M = slA q pp (SlotS.touch s 2 i j) :: pgA pp ph E.2.1 :: hostA ph E.2.2 :: blk a (φ A B).1 :: blk b (φ A B).2 :: Z) := by
  refine Con.slA fun la lc => ?_
  simp only [List.cons_append, List.nil_append]
  have ht1 := hk.t1
  have hp1 := hk.p1
  have hpage := f.page hi
  have hfi := f.from i
  have hfj := f.from j
  have hsz1 := f.size
  have hiz := f.small hi hp1 ht1
  have hjz := f.small hj hp1 ht1
  have hll := fun hk1 => SlotS.load_text (p := p) (h := h) (n := ((SlotS.pg s i : Nat) : Int)) he hk1
  have hld := load_x (p := pp) (ph := ph) hov (by omega) ((SlotS.pg s i : Nat) : Int)
  have hov1 := (PagerS.near_load p h ((SlotS.pg s i : Nat) : Int)).over hov
  have hop1 := (PagerS.near_load p h ((SlotS.pg s i : Nat) : Int)).ops
  have htc := fun a c => stouch_x (q := q) (pp := pp) (s := s) (a := a) (c := c) 2 i j hl
  have hpl1 := fun a c => splace_x (q := q) (pp := pp) (s := SlotS.touch s 2 i j) (a := a) (c := c) i (f.touch 2 i j).per1 hiz (by show SlotS.fr s i ≤ 4096; omega) (by show SlotS.pg s i ≤ 65536; omega)
  have hpl2 := fun a c => splace_x (q := q) (pp := pp) (s := SlotS.touch s 2 i j) (a := a) (c := c) j (f.touch 2 i j).per1 hjz (by show SlotS.fr s j ≤ 4096; omega) (by show SlotS.pg s j ≤ 65536; rw [hpg]; omega)
  have hpd := fun a c g n cp bf bs fn h1 h2 h3 => splaced_x (q := q) (pp := pp) (s := SlotS.touch s 2 i j) (a := a) (c := c) (g := g) (n := n) (cp := cp) (bf := bf) (bs := bs) (f := fn) f.size h1 h2 h3
  have e1 : SlotS.pg (SlotS.touch s 2 i j) i = SlotS.pg s i := rfl
  have e2 : SlotS.fr (SlotS.touch s 2 i j) i = SlotS.fr s i := rfl
  have e1' : SlotS.pg (SlotS.touch s 2 i j) j = SlotS.pg s j := rfl
  have e2' : SlotS.fr (SlotS.touch s 2 i j) j = SlotS.fr s j := rfl
  have e3 : (SlotS.touch s 2 i j).size = s.size := rfl
  rw [e1, e2] at hpl1
  rw [e1', e2', hpg] at hpl2
  rw [e3] at hpd
  have hh1 : SlotS.has s (i : Int) := SlotS.has_nat hi
  have hh2 : SlotS.has s (j : Int) := SlotS.has_nat hj
  have hijz : ¬ ((i : Int) = (j : Int)) := by omega
  clear e1 e1' e2 e2' hiz hjz
  generalize hs2 : SlotS.touch s 2 i j = s2 at *
  generalize (PagerS.loadP p h (SlotS.pg s i : Nat)).2.1 = p1 at *
  generalize (PagerS.loadP p h (SlotS.pg s i : Nat)).2.2 = h1 at *
  generalize (PagerS.loadP p h (SlotS.pg s i : Nat)).1.2 = er at *
  generalize (PagerS.loadP p h (SlotS.pg s i : Nat)).1.1 = B at *
  generalize SlotS.pg s i = pn at *
  generalize SlotS.fr s i = f1 at *
  generalize SlotS.fr s j = f2 at *
  subst he
  refine fn_y Tryz.func32 Tryz.mixed ?_
  intro w0
  refine Y6 ?_
  refine Zhn 20 rfl (rfl) ?_
  refine Y5 ?_
  refine Zor (c := shas_x (q := q) (pp := pp) (s := s) (a := la) (c := lc) i) (k := ?_)
  rintro _ _ ⟨rfl, rfl⟩
  refine Y1 ?_
  refine Zos 23 rfl (hh1) ?_
  refine Zhg (Zb0 rfl) ?_
  refine Zhn 24 rfl (rfl) ?_
  refine Y3 ?_
  first|refine Y0 ?_|(refine Zhh rfl ?_; (refine Zor (c := shas_x (q := q) (pp := pp) (s := s) (a := la) (c := lc) j) (k := ?_)); (rintro _ _ ⟨rfl, rfl⟩); (refine Zg2 qA ?_))
  refine Zos 28 rfl (hh2) ?_
  first|refine Y0 ?_|(refine Zhh rfl ?_; (refine Zhg (Zb0 rfl) ?_))
  refine Zhn 29 rfl (rfl) ?_
  refine Y4 ?_
  first|refine Y0 ?_|(refine Zhh rfl ?_; (refine Zhg (Zbr (a := (i : Int)) (b := (j : Int)) rfl rfl) ?_))
  refine Zot 34 rfl (hijz) ?_
  refine Y7 ?_
  refine Zor (c := htc la lc) (k := ?_)
  rintro _ _ ⟨la2, lc2, rfl⟩
  refine Y5 ?_
  refine Zor (c := hpl1 la2 lc2) (k := ?_)
  rintro _ _ ⟨bf, bs, rfl, rfl⟩
  refine Y10 ?_
  refine Zor (c := hpl2 la2 lc2) (k := ?_)
  rintro _ _ ⟨bg, bt, rfl, rfl⟩
  refine Y13 ?_
  refine Zor (c := hld) (k := ?_)
  rintro _ _ ⟨ta, tc, rfl, rfl⟩
  refine V7 ?_
  refine Zgt (fun F w H => pgs_ok (pp := pp) (ph := ph) (p := p1) qH H) ?_
  intro hk1
  have hB := hll hk1
  refine Y3 ?_
  refine Zot 62 rfl ((fun hh => hh rfl)) ?_
  refine Y9 ?_
  refine Zhg (Zmk (a := pn) (b := pn) rfl rfl) ?_
  refine Zot 67 rfl ((fun hh => hh rfl)) ?_
  refine V2 ?_
  refine Zij ([cl q (slc pp s2 la2 lc2) 137]) [4, 8, 9, 10] (.q 0 (.q 1 (.q 2 (.q 5 (.q 6 (.q 7 (.r 3 (.r 8 (.alt (.e 4 true (.r 10 (.e 9 true (.q 11 .nil)))) (.e 9 true (.e 4 true (.r 10 (.q 11 .nil))))))))))))) (by kernel_rfl) (by kernel_rfl) (Imp.arr qV) ?_
  refine W8 ?_
  refine Zis ?altA1 ?altB1
  case' altA1 =>
    refine Ziq rfl ?_
    refine Zm3 (f := u8b) (a := 0#8) rfl rfl rfl qS qS qS ?_; intro b84
    refine Zg3 ⟨fun _ => Imp.arr qV, ?_⟩
    refine W1 ?_
    refine Ziq rfl ?_
    refine Zm3 (f := u8b) (a := 0#8) rfl rfl rfl qS qS qS ?_; intro b89
    refine Zg3 ⟨fun _ => Imp.arr qV, ?_⟩
    refine W2 ?_
  case' altB1 =>
    refine Ziq rfl ?_
    refine Zm3 (f := u8b) (a := 0#8) rfl rfl rfl qS qS qS ?_; intro b89
    refine Zg3 ⟨fun _ => Imp.arr qV, ?_⟩
    refine Ziq rfl ?_
    refine Zm3 (f := u8b) (a := 0#8) rfl rfl rfl qS qS qS ?_; intro b84
    refine Zg3 ⟨fun _ => Imp.arr qV, ?_⟩
    refine W3 ?_
  all_goals (refine Ct.o ?_)
  all_goals
    rw [e3]
    refine x_own (E := 5) (n := B.length) (a := ta) (cp := tc) qH (by omega) ?_
    intro g rest hg hc1 hc2 hr
    subst hg
    have hA : (SlotS.part B f1 s.size).length = s.size := SlotS.part_len (by omega)
    have hA2 : (SlotS.part B f2 s.size).length = s.size := SlotS.part_len (by omega)
    obtain ⟨hx, hy⟩ := hc.len _ _ hA hA2
    have hcf := hc.con b84 b89 _ _ hA hA2
    refine Y4 ?_
    refine Zor (c := hpd la2 lc2 g B.length tc bf bs f1 (by omega) hc1 (by omega)) (k := ?_)
    rintro _ _ ⟨rfl, rfl⟩
    refine Y1 ?_
    refine Zib rfl rfl ((rd_part qH (by omega))) qR qZ (by first|rfl|exact oneM_u8 _|exact oneL_u8 _|exact acc_one _|exact acc_ones _|assumption|(simp [oneC]; done)) (copy_all hA) ?_
    refine Y5 ?_
    refine Zor (c := hpd la2 lc2 g B.length tc bg bt f2 (by omega) hc1 (by omega)) (k := ?_)
    rintro _ _ ⟨rfl, rfl⟩
    refine Y1 ?_
    refine Zib rfl rfl ((rd_part qH (by omega))) qR qZ (by first|rfl|exact oneM_u8 _|exact oneL_u8 _|exact acc_one _|exact acc_ones _|assumption|(simp [oneC]; done)) (copy_all hA2) ?_
    refine Y5 ?_
    refine Zh8 rfl hc.callable hcf rfl qT ?_; rintro _ _ ⟨Z, hZ, rfl⟩; refine Zg2 qA ?_
    refine V1 ?_
    generalize hφ1 : (φ (SlotS.part B f1 s.size) (SlotS.part B f2 s.size)).1 = x1 at *
    generalize hφ2 : (φ (SlotS.part B f1 s.size) (SlotS.part B f2 s.size)).2 = x2 at *
    have hl1 : (SlotS.lay B f1 x1).length = B.length := SlotS.lay_len (by omega)
    have hl2 : (SlotS.lay (SlotS.lay B f1 x1) f2 x2).length = B.length := by rw [SlotS.lay_len (by omega), hl1]
    have hsv := save_x (p := pp) (ph := ph) (s := p1) (h := h1) (L := [cl g ((SlotS.lay (SlotS.lay B f1 x1) f2 x2).map u8b ++ rest).toArray 5]) hov1 (by omega) (pn : Int) (lay_bs (n := B.length) (c := tc) .here hl2 hc1 hc2)
    refine Y3 ?_
    refine Zor (c := hpd la2 lc2 g B.length tc bf bs f1 (by omega) hc1 (by omega)) (k := ?_)
    rintro _ _ ⟨rfl, rfl⟩
    refine Y2 ?_
    refine Zib rfl rfl ((Bs.rd (bs_full (l := x1) (n := s.size) qH hx (by omega)))) qR qZ (by first|rfl|exact oneM_u8 _|exact oneL_u8 _|exact acc_one _|exact acc_ones _|assumption|(simp [oneC]; done)) (copy_lay (B := B) (f := f1) (rest := rest) hx (by omega)) ?_
    refine Y4 ?_
    refine Zor (c := hpd la2 lc2 g B.length tc bg bt f2 (by omega) hc1 (by omega)) (k := ?_)
    rintro _ _ ⟨rfl, rfl⟩
    refine Y2 ?_
    refine Zib rfl rfl ((Bs.rd (bs_full (l := x2) (n := s.size) qH hy (by omega)))) qR qZ (by first|rfl|exact oneM_u8 _|exact oneL_u8 _|exact acc_one _|exact acc_ones _|assumption|(simp [oneC]; done)) (copy_lay (B := SlotS.lay B f1 x1) (f := f2) (rest := rest) hy (by omega)) ?_
    refine Y8 ?_
    refine Zor (c := hsv) (k := ?_)
    rintro _ _ ⟨rfl, rfl⟩
    refine V3 ?_
    have hfin : Imp (slL q pp s2 la2 lc2 ++ (pgA pp ph (PagerS.saveP p1 h1 (pn : Int) (SlotS.lay (SlotS.lay B f1 x1) f2 x2)).2.1 :: hostA ph (PagerS.saveP p1 h1 (pn : Int) (SlotS.lay (SlotS.lay B f1 x1) f2 x2)).2.2 :: blk b84 x1 :: blk b89 x2 :: Z)) (slA q pp s2 :: pgA pp ph (PagerS.saveP p1 h1 (pn : Int) (SlotS.lay (SlotS.lay B f1 x1) f2 x2)).2.1 :: hostA ph (PagerS.saveP p1 h1 (pn : Int) (SlotS.lay (SlotS.lay B f1 x1) f2 x2)).2.2 :: blk b84 x1 :: blk b89 x2 :: Z) := slA_mk
    simp only [List.cons_append, List.nil_append] at hfin
    by_cases hz : (PagerS.saveP p1 h1 (pn : Int) (SlotS.lay (SlotS.lay B f1 x1) f2 x2)).1 = 0
    · refine Y3 ?_
      refine Zot 122 rfl ((fun hh => hh hz)) ?_
      refine Y3 ?_
      first|refine Y0 ?_|(refine Zhh rfl ?_; (refine Zhg (Zmj (a := pn) (b := pn) rfl rfl) ?_))
      refine Zos 126 rfl (rfl) ?_
      refine V7 ?_
      refine rx1 (Zg9 rfl (Zg7)) ?_
      refine ⟨_, ⟨_, _, _, rfl, rfl, rfl, by rw [hφ1, hφ2], b84, b89, Z, hZ, rfl⟩, ?_⟩
      rw [hφ1, hφ2]
      exact (Imp.arr qV).trans hfin
    · refine Y3 ?_
      refine Zos 122 rfl (hz) ?_
      refine V11 ?_
      refine rx1 (Zg9 rfl (Zg7)) ?_
      refine ⟨_, ⟨_, _, _, rfl, rfl, rfl, by rw [hφ1, hφ2], b84, b89, Z, hZ, rfl⟩, ?_⟩
      rw [hφ1, hφ2]
      exact (Imp.arr qV).trans hfin
end
end Go.Sl
namespace Go.Sl
open Go Go.Proofs
attribute [local irreducible] pt own old pur ex all den denOps denS xOps xC cX CX xthen xblk xcut xloop xng retX resX Calls PV Rd Con
theorem within_x (a : Int) (n : Nat) (hn : 1 ≤ n) (hn2 : n ≤ 1000000000000) : Con Tryz.prog 67 [.int .i64 a, nvv n] [] (fun r M => r = nvv (withinN a n) ∧ M = []) := by
  obtain ⟨h1, h2, h3⟩ := within_is a hn
  by_cases h : a.tmod n < 0
  · have e := h2 h
    refine fn_y Tryz.func67 Tryz.mixed ?_
    intro w0
    refine Y6 ?_
    refine Zhg (Zbk (a := a) (b := (n : Int)) rfl rfl (by omega)) ?_
    refine Y4 ?_
    refine Zhg (Zbn (a := a.tmod n) (b := 0) rfl rfl) ?_
    refine Zos 9 rfl (h) ?_
    refine Y5 ?_
    refine Zhg (Zbg (a := a.tmod n) (b := (n : Int)) rfl rfl (by omega)) ?_
    refine V2 ?_
    rw [e]
    refine V4 ?_
    refine rx1 (Zg9 rfl (Zg7)) ?_
    exact ⟨_, ⟨rfl, rfl⟩, qI⟩
  · have e := h3 h
    refine fn_y Tryz.func67 Tryz.mixed ?_
    intro w0
    refine Y6 ?_
    refine Zhg (Zbk (a := a) (b := (n : Int)) rfl rfl (by omega)) ?_
    refine Y4 ?_
    refine Zhg (Zbn (a := a.tmod n) (b := 0) rfl rfl) ?_
    refine Zot 9 rfl (h) ?_
    refine V2 ?_
    rw [e]
    refine V4 ?_
    refine rx1 (Zg9 rfl (Zg7)) ?_
    exact ⟨_, ⟨rfl, rfl⟩, qI⟩
theorem sized_x {L : List Asrt} {vb : Value} {b : List Byte} (hb : Bs L vb b) (n : Nat) (hn : n ≤ 4096) : Con Tryz.prog 60 [vb, nvv n] L (fun r M => ∃ g, r = fsl g n ∧ M = blk g (sizedB b n) :: L) := by
  refine Con.get (fun w0 w F H => hb.sh _ _ _ H) ?_
  rintro ⟨ba, bc, rfl, hbc, hbcm⟩
  refine fn_y Tryz.func60 Tryz.mixed ?_
  intro w0
  refine Y5 ?_
  refine Zm3 (f := u8b) (a := 0#8) rfl rfl rfl qS qS qS ?_; intro b8
  refine V5 ?_
  refine Zgo [(6, 6), (9, 26)] (by kernel_rfl) (fun i : Nat => i ≤ min n b.length) (fun i => blk b8 (sizedTo b n i) :: L) (fun i => [(6, nvv i)]) (fun i => n - i) 0 (Nat.zero_le _) (by rw [sizedTo_zero]; exact qI) ⟨rfl, trivial⟩ ?_
  intro i u hi
  have hl := sizedTo_len b n i
  by_cases h1 : i < n
  · by_cases h2 : i < b.length
    · refine Zgt (fun F w H => (hb.imp (Imp.arr (M := _) qV)).some (by omega) H) ?_
      rintro ⟨b1, o1, rfl⟩
      refine Y4 ?_
      refine Zos 11 rfl (h1) ?_
      refine Y5 ?_
      refine Zos 16 rfl (h2) ?_
      refine Y9 ?_
      refine Zff rfl (((hb.imp qI).rd.at h2 (getM h2))) ?_
      refine Y1 ?_
      refine Zht rfl rfl qR qZ (setL (f := u8b) (l := sizedTo b n i)) ?_
      refine V1 ?_
      rw [sizedTo_set h2 h1]
      refine V5 ?_
      exact Zgl (i + 1) qO (by omega) qI ⟨rfl, trivial⟩
    · have hie : i = min n b.length := by omega
      refine Y4 ?_
      refine Zos 11 rfl (h1) ?_
      refine Y5 ?_
      refine Zot 16 rfl (h2) ?_
      refine V7 ?_
      refine rx1 (Zhc rfl (Zg7)) ?_
      refine ⟨_, ⟨b8, rfl, rfl⟩, ?_⟩
      unfold sizedB
      rw [← hie]
      exact qI
  · have hie : i = min n b.length := by omega
    refine Y4 ?_
    refine Zot 11 rfl (h1) ?_
    refine V12 ?_
    refine rx1 (Zhc rfl (Zg7)) ?_
    refine ⟨_, ⟨b8, rfl, rfl⟩, ?_⟩
    unfold sizedB
    rw [← hie]
    exact qI
end Go.Sl
namespace Go.Sl
open Go Go.Proofs
attribute [local irreducible] pt own old pur ex all den denOps denS xOps xC cX CX xthen xblk xcut xloop xng retX resX Calls PV Rd Con
attribute [local irreducible] hostA pgA
open SlotS (SL Acc Fit)
open PagerS (PS Over)
theorem rtake_x (n per : Nat) (h1 : 1 ≤ per) (hn : n ≤ 9223372036854775807) : Con Tryz.prog 73 [nvv n, nvv per] [] (fun r M => r = nvv (SlotS.takeN n per) ∧ M = []) := by
  unfold SlotS.takeN
  by_cases h0 : n % per = 0
  · rw [if_pos h0, Nat.add_zero]
    refine fn_y Tryz.func73 Tryz.mixed ?_
    intro w0
    refine Y14 ?_
    refine Zot 12 rfl ((by omega)) ?_
    refine V6 ?_
    refine rx1 (Zg9 rfl (Zg7)) ?_
    exact ⟨_, ⟨rfl, rfl⟩, qI⟩
  · rw [if_neg h0]
    have := take_le h1 hn h0
    refine fn_y Tryz.func73 Tryz.mixed ?_
    intro w0
    refine Y14 ?_
    refine Zos 12 rfl ((by omega)) ?_
    refine V11 ?_
    refine rx1 (Zg9 rfl (Zg7)) ?_
    exact ⟨_, ⟨rfl, rfl⟩, qI⟩
theorem rsPages_x (n size text : Int) (hn : n ≤ 9223372036854775807) (hz : size ≤ 9223372036854775807) (ht : text ≤ 9223372036854775807) : Con Tryz.prog 16 [.int .i64 n, .int .i64 size, .int .i64 text] [] (fun r M => r = .tuple #[.int .i64 (SlotS.pagesS n size text).1, nvv (SlotS.pagesS n size text).2] ∧ M = []) := by
  unfold SlotS.pagesS
  by_cases h1 : n < 0
  · rw [if_pos (.inl h1)]
    refine fn_y Tryz.func16 Tryz.mixed ?_
    intro w0
    refine Y6 ?_
    refine Zhg (Zbn (b := 0) rfl rfl) ?_
    refine Zos 10 rfl (h1) ?_
    refine V10 ?_
    refine rx2 (Zg9 rfl (Zg9 rfl (Zg7))) ?_
    exact ⟨_, ⟨rfl, rfl⟩, qI⟩
  by_cases h2 : size < 1
  · rw [if_pos (.inr h2)]
    refine fn_y Tryz.func16 Tryz.mixed ?_
    intro w0
    refine Y6 ?_
    refine Zhg (Zbn (b := 0) rfl rfl) ?_
    refine Zot 10 rfl (h1) ?_
    refine Y2 ?_
    first|refine Y0 ?_|(refine Zhh rfl ?_; (refine Zhg (Zbn (b := 1) rfl rfl) ?_))
    refine Zos 13 rfl (h2) ?_
    refine V7 ?_
    refine rx2 (Zg9 rfl (Zg9 rfl (Zg7))) ?_
    exact ⟨_, ⟨rfl, rfl⟩, qI⟩
  rw [if_neg (show ¬ (n < 0 ∨ size < 1) by omega)]
  by_cases h3 : text < size
  · rw [if_pos h3]
    refine fn_y Tryz.func16 Tryz.mixed ?_
    intro w0
    refine Y6 ?_
    refine Zhg (Zbn (b := 0) rfl rfl) ?_
    refine Zot 10 rfl (h1) ?_
    refine Y2 ?_
    first|refine Y0 ?_|(refine Zhh rfl ?_; (refine Zhg (Zbn (b := 1) rfl rfl) ?_))
    refine Zot 13 rfl (h2) ?_
    refine Y6 ?_
    refine Zhg (Zbp (a := size) (b := text) rfl rfl) ?_
    refine Zos 17 rfl (h3) ?_
    refine V6 ?_
    refine rx2 (Zg9 rfl (Zg9 rfl (Zg7))) ?_
    exact ⟨_, ⟨rfl, rfl⟩, qI⟩
  rw [if_neg h3]
  obtain ⟨n, rfl⟩ : ∃ k : Nat, n = k := ⟨n.toNat, by omega⟩
  obtain ⟨z, rfl⟩ : ∃ k : Nat, size = k := ⟨size.toNat, by omega⟩
  obtain ⟨t, rfl⟩ : ∃ k : Nat, text = k := ⟨text.toNat, by omega⟩
  simp only [Int.toNat_natCast]
  have hd : 1 ≤ t / z := Nat.div_pos (by omega) (by omega)
  have hpx := rtake_x n (t / z) hd (by omega)
  by_cases h4 : 65536 < SlotS.takeN n (t / z)
  · rw [if_pos h4]
    refine fn_y Tryz.func16 Tryz.mixed ?_
    intro w0
    refine Y6 ?_
    refine Zhg (Zbn (a := (n : Int)) (b := 0) rfl rfl) ?_
    refine Zot 10 rfl (h1) ?_
    refine Y2 ?_
    first|refine Y0 ?_|(refine Zhh rfl ?_; (refine Zhg (Zbn (a := (z : Int)) (b := 1) rfl rfl) ?_))
    refine Zot 13 rfl (h2) ?_
    refine Y6 ?_
    refine Zhg (Zbp (a := (z : Int)) (b := (t : Int)) rfl rfl) ?_
    refine Zot 17 rfl (h3) ?_
    refine Y7 ?_
    refine Zor (c := hpx) (k := ?_)
    rintro _ _ ⟨rfl, rfl⟩
    refine Y6 ?_
    refine Zos 24 rfl (h4) ?_
    refine V6 ?_
    refine rx2 (Zg9 rfl (Zg9 rfl (Zg7))) ?_
    exact ⟨_, ⟨rfl, rfl⟩, qI⟩
  · rw [if_neg h4]
    refine fn_y Tryz.func16 Tryz.mixed ?_
    intro w0
    refine Y6 ?_
    refine Zhg (Zbn (a := (n : Int)) (b := 0) rfl rfl) ?_
    refine Zot 10 rfl (h1) ?_
    refine Y2 ?_
    first|refine Y0 ?_|(refine Zhh rfl ?_; (refine Zhg (Zbn (a := (z : Int)) (b := 1) rfl rfl) ?_))
    refine Zot 13 rfl (h2) ?_
    refine Y6 ?_
    refine Zhg (Zbp (a := (z : Int)) (b := (t : Int)) rfl rfl) ?_
    refine Zot 17 rfl (h3) ?_
    refine Y7 ?_
    refine Zor (c := hpx) (k := ?_)
    rintro _ _ ⟨rfl, rfl⟩
    refine Y6 ?_
    refine Zot 24 rfl (h4) ?_
    refine V7 ?_
    refine rx2 (Zg9 rfl (Zg9 rfl (Zg7))) ?_
    exact ⟨_, ⟨rfl, rfl⟩, qI⟩
end Go.Sl
namespace Go.Sl.PagerS
open Go Go.Sl Go.Sl.HostS
attribute [local irreducible] pgSealB pgOpenR
abbrev is2 (f : Fr) : Bool := f.is == 2
def ch (l : List Fr) (m : Int) : Bool := ((l.find? fun f => f.page == m).map Fr.is).getD 0 == 2
theorem ch_is (s : PS) (m : Int) : changedAt s m = ch s.held m := rfl
theorem ch_cons (x : Fr) (r : List Fr) (m : Int) : ch (x :: r) m = if x.page = m then is2 x else ch r m := by
  unfold ch
  rw [List.find?_cons]
  by_cases e : x.page = m
  · rw [if_pos e]; simp [e]
  · rw [if_neg e, beq_eq_false_iff_ne.2 e]
theorem ch_none {l : List Fr} {m : Int} (h : m ∉ l.map Fr.page) : ch l m = false := by
  induction l with
  | nil => rfl
  | cons x r ih =>
    rw [List.map_cons, List.mem_cons, not_or] at h
    rw [ch_cons, if_neg (fun hh => h.1 hh.symm)]
    exact ih h.2
theorem filter_none {l : List Fr} {n : Int} (h : n ∉ l.map Fr.page) : (l.filter fun g => !(g.page == n)) = l := by
  rw [List.filter_eq_self]
  intro g hg
  have : g.page ≠ n := fun hh => h (by rw [← hh]; exact List.mem_map.2 ⟨g, hg, rfl⟩)
  simp [this]
theorem cnt_filter (n : Int) : ∀ {l : List Fr}, (l.map Fr.page).Nodup → l.countP is2 ≤ (l.filter fun g => !(g.page == n)).countP is2 + (if ch l n then 1 else 0)
  | [], _ => Nat.zero_le _
  | x :: r, hn => by
    rw [List.map_cons, List.nodup_cons] at hn
    rw [ch_cons]
    by_cases e : x.page = n
    · rw [List.filter_cons_of_neg (by simp [e]), filter_none (by rw [← e]; exact hn.1), List.countP_cons, if_pos e]
      exact Nat.le_refl _
    · have := cnt_filter n hn.2
      rw [List.filter_cons_of_pos (by simp [e]), List.countP_cons, List.countP_cons, if_neg e]
      omega
theorem cnt_cleaned (n : Int) : ∀ {l : List Fr}, (l.map Fr.page).Nodup → l.countP is2 ≤ (cleaned l n).countP is2 + 1
  | [], _ => Nat.zero_le _
  | x :: r, hn => by
    rw [List.map_cons, List.nodup_cons] at hn
    show _ ≤ List.countP is2 ((if x.page = n then { x with is := 1 } else x) :: cleaned r n) + 1
    by_cases e : x.page = n
    · have : cleaned r n = r := by
        unfold cleaned
        conv => rhs; rw [← List.map_id r]
        apply List.map_congr_left
        intro g hg
        rw [if_neg (fun hh => hn.1 (by rw [e, ← hh]; exact List.mem_map.2 ⟨g, hg, rfl⟩))]; rfl
      rw [this, List.countP_cons, List.countP_cons]
      split <;> omega
    · have := cnt_cleaned n hn.2
      rw [if_neg e, List.countP_cons, List.countP_cons]
      omega
theorem ch_cleaned {l : List Fr} {n m : Int} (h : ch (cleaned l n) m = true) : ch l m = true := by
  induction l with
  | nil => exact h
  | cons x r ih =>
    change ch ((if x.page = n then { x with is := 1 } else x) :: cleaned r n) m = true at h
    rw [ch_cons] at h ⊢
    by_cases e : x.page = n
    · rw [if_pos e] at h
      by_cases e2 : x.page = m
      · rw [if_pos (show ({ x with is := 1 } : Fr).page = m from e2)] at h; cases h
      · rw [if_neg e2]; rw [if_neg (show ¬ ({ x with is := 1 } : Fr).page = m from e2)] at h; exact ih h
    · rw [if_neg e] at h
      by_cases e2 : x.page = m
      · rw [if_pos e2] at h ⊢; exact h
      · rw [if_neg e2] at h ⊢; exact ih h
theorem ch_tail {l : List Fr} {m : Int} (hn : (l.map Fr.page).Nodup) (h : ch l.tail m = true) : ch l m = true := by
  cases l with
  | nil => exact h
  | cons x r =>
    rw [List.map_cons, List.nodup_cons] at hn
    change ch r m = true at h
    rw [ch_cons]
    by_cases e : x.page = m
    · rw [ch_none (by rw [← e]; exact hn.1)] at h; cases h
    · rw [if_neg e]; exact h
theorem ch_filter {l : List Fr} {n m : Int} {f : Fr} (hf : f.page = n) : ch ((l.filter fun g => !(g.page == n)) ++ [f]) m = if m = n then is2 f else ch l m := by
  induction l with
  | nil =>
    show ch [f] m = _
    rw [ch_cons, hf]
    by_cases e : m = n
    · rw [if_pos e, if_pos e.symm]
    · rw [if_neg e, if_neg (fun hh => e hh.symm)]
  | cons x r ih =>
    by_cases e : x.page = n
    · rw [List.filter_cons_of_neg (by simp [e]), ih, ch_cons]
      by_cases e2 : m = n
      · rw [if_pos e2, if_pos e2]
      · rw [if_neg e2, if_neg e2, if_neg (fun hh => e2 (hh.symm.trans e))]
    · rw [List.filter_cons_of_pos (by simp [e]), List.cons_append, ch_cons, ih, ch_cons]
      by_cases e2 : m = n
      · rw [if_pos e2, if_pos e2, if_neg (fun hh => e (hh.trans e2))]
      · rw [if_neg e2, if_neg e2]
def dE (s : PS) : Nat := if s.err = 0 then 0 else 8
def Cost (k : Nat) (s : PS) (h : HS) (s' : PS) (h' : HS) : Prop := h'.ops + 2 * s.writes + chg s + dE s ≤ h.ops + 2 * s'.writes + chg s' + dE s' + k
section
variable {s : PS} {h : HS}
theorem Cost.refl (s : PS) (h : HS) : Cost 0 s h s h := by unfold Cost; omega
theorem Cost.trans {k m : Nat} {a b c : PS} {x y z : HS} (p : Cost k a x b y) (q : Cost m b y c z) : Cost (k + m) a x c z := by unfold Cost at *; omega
theorem Cost.mono {k m : Nat} {a b : PS} {x y : HS} (p : Cost k a x b y) (h : k ≤ m) : Cost m a x b y := by unfold Cost at *; omega
theorem cost_write (hk : Ok s) (h0 : s.err = 0) (n : Int) : Cost 0 s h (writeP s h n).2.1 (writeP s h n).2.2 := by
  have ho := (near_write s h n).ops
  by_cases he : (writeP s h n).1 = 0
  · obtain ⟨_, _, e⟩ := writeP_zero he
    have e1 : chg s ≤ chg (writeP s h n).2.1 + 1 := by rw [e]; exact cnt_cleaned n hk.once
    have e2 : (writeP s h n).2.1.err = s.err := by rw [e]; rfl
    have e3 : (writeP s h n).2.1.writes = s.writes + 1 := by rw [e]; rfl
    unfold Cost dE
    rw [e2, e3]
    omega
  · obtain ⟨_, e⟩ := writeP_errs s h n he
    have e1 : chg (writeP s h n).2.1 = chg s := by rw [e]; rfl
    have e2 : (writeP s h n).2.1.err = (writeP s h n).1 := by rw [e]; rfl
    have e3 : (writeP s h n).2.1.writes = s.writes := by rw [e]; rfl
    unfold Cost dE
    rw [e1, e2, e3, if_neg he, if_pos h0]
    omega
theorem cost_tail (hc : ch s.held ((s.held.head?.map Fr.page).getD 0) = false) : Cost 0 s h { s with held := s.held.tail } h := by
  have : s.held.countP is2 ≤ s.held.tail.countP is2 := by
    cases hl : s.held with
    | nil => exact Nat.le_refl _
    | cons x r =>
      rw [hl] at hc
      have hx : is2 x = false := by rw [ch_cons] at hc; simpa using hc
      rw [List.countP_cons, hx]
      exact Nat.le_refl _
  unfold Cost dE chg
  dsimp only
  change s.held.countP (fun f => f.is == 2) ≤ s.held.tail.countP (fun f => f.is == 2) at this
  omega
theorem cost_room (hk : Ok s) (h0 : s.err = 0) : Cost 0 s h (roomP s h).2.1 (roomP s h).2.2 := by
  unfold roomP
  split
  · exact Cost.refl s h
  · dsimp only
    split
    · rename_i hc
      have hw := cost_write (h := h) hk h0 ((s.held.head?.map Fr.page).getD 0)
      split
      · rename_i hz
        refine hw.trans (cost_tail ?_)
        obtain ⟨_, _, e⟩ := writeP_zero hz
        rw [e]
        show ch (cleaned s.held _) (((cleaned s.held _).head?.map Fr.page).getD 0) = false
        cases hl : s.held with
        | nil => rfl
        | cons x r =>
          have hh : ∀ (y : Fr) (r' : List Fr), ch (y :: r') (((y :: r').head?.map Fr.page).getD 0) = is2 y := fun y r' => by rw [ch_cons]; exact if_pos rfl
          exact (hh (if x.page = x.page then { x with is := 1 } else x) _).trans (by rw [if_pos rfl]; rfl)
      · exact hw
    · rename_i hc
      exact cost_tail (by rw [← ch_is]; simpa using hc)
theorem chg_use (f : Fr) : chg (useP s f) = (s.held.filter fun g => !(g.page == f.page)).countP is2 + (if is2 f then 1 else 0) := by
  unfold chg useP
  dsimp only
  rw [List.countP_append, List.countP_cons, List.countP_nil, Nat.zero_add]
theorem cost_use (f : Fr) (hk : (numbers s).Nodup) (hf : changedAt s f.page = true → is2 f = true) : Cost 0 s h (useP s f) h := by
  have := cnt_filter f.page hk
  have e := chg_use (s := s) f
  have e1 : (useP s f).writes = s.writes := rfl
  have e2 : dE (useP s f) = dE s := rfl
  unfold Cost
  rw [e1, e2, e]
  change chg s ≤ _ at this
  rw [← ch_is] at this
  by_cases hc : changedAt s f.page = true
  · rw [if_pos hc] at this; rw [if_pos (hf hc)]; omega
  · rw [if_neg hc] at this; omega
theorem cost_fetch (hk : (numbers s).Nodup) (h0 : s.err = 0) {n : Int} (hn : n ∉ numbers s) : Cost (if (fetchP s h n).1.2 = 0 then 1 else 0) s h (fetchP s h n).2.1 (fetchP s h n).2.2 := by
  have ho := readR_ops h n
  have hcn : changedAt s n = false := ch_none hn
  have hd : ∀ e, e ≠ 0 → Cost 0 s h (die s e) (readR h n).2.2 := fun e he => by
    unfold Cost dE die chg
    dsimp only
    rw [if_neg he, if_pos h0]
    omega
  unfold fetchP
  split
  · dsimp only
    split
    · split
      · have : Cost 1 s h s (readR h n).2.2 := by unfold Cost; omega
        rw [if_pos rfl]
        exact this.trans (cost_use _ hk (fun hc => by rw [show changedAt s n = true from hc] at hcn; cases hcn))
      · rename_i hz; exact hd _ hz
    · rename_i hz; exact hd _ hz
  · exact (cost_use _ hk (fun hc => by rw [show changedAt s n = true from hc] at hcn; cases hcn)).mono (Nat.zero_le _)
theorem room_once (hk : Ok s) : (numbers (roomP s h).2.1).Nodup ∧ (∀ n, n ∉ numbers s → n ∉ numbers (roomP s h).2.1) ∧ ∀ m, changedAt (roomP s h).2.1 m = true → changedAt s m = true := by
  have hcl : ∀ n, (cleaned s.held n).map Fr.page = s.held.map Fr.page := fun n => by
    unfold cleaned
    rw [List.map_map]
    apply List.map_congr_left
    intro f _
    simp only [Function.comp]
    split <;> rfl
  have htl : ∀ (l : List Fr) (n : Int), n ∉ l.map Fr.page → n ∉ l.tail.map Fr.page := fun l n hn hh => hn (by
    obtain ⟨f, hf, e⟩ := List.mem_map.1 hh
    exact List.mem_map.2 ⟨f, List.mem_of_mem_tail hf, e⟩)
  have hnt : ∀ l : List Fr, (l.map Fr.page).Nodup → (l.tail.map Fr.page).Nodup := fun l hl => by
    cases l with
    | nil => exact hl
    | cons x r => rw [List.map_cons, List.nodup_cons] at hl; exact hl.2
  unfold roomP
  split
  · exact ⟨hk.once, fun n hn => hn, fun m hm => hm⟩
  · dsimp only
    split
    · split
      · rename_i hz
        obtain ⟨_, _, e⟩ := writeP_zero hz
        rw [e]
        refine ⟨hnt _ ?_, fun n hn => htl _ n ?_, fun m hm => ch_cleaned (ch_tail ?_ hm)⟩
        · show ((cleaned s.held _).map Fr.page).Nodup; rw [hcl]; exact hk.once
        · show n ∉ (cleaned s.held _).map Fr.page; rw [hcl]; exact hn
        · show ((cleaned s.held _).map Fr.page).Nodup; rw [hcl]; exact hk.once
      · rename_i hz
        obtain ⟨_, e⟩ := writeP_errs s h _ hz
        rw [e]
        exact ⟨hk.once, fun n hn => hn, fun m hm => hm⟩
    · exact ⟨hnt _ hk.once, fun n hn => htl _ n hn, fun m hm => ch_tail hk.once hm⟩
theorem frOf_not {n : Int} (h : frOf s n = none) : n ∉ numbers s := by
  unfold frOf at h
  rw [List.find?_eq_none] at h
  intro hh
  obtain ⟨f, hf, e⟩ := List.mem_map.1 hh
  exact h f hf (by simp [e])
theorem chu (f : Fr) (m : Int) : changedAt (useP s f) m = if m = f.page then is2 f else changedAt s m := ch_filter rfl
theorem cost_load (hk : Ok s) (n : Int) : Cost 1 s h (loadP s h n).2.1 (loadP s h n).2.2 ∧ (∀ m, changedAt (loadP s h n).2.1 m = true → changedAt s m = true) ∧ (Cost 0 s h (loadP s h n).2.1 (loadP s h n).2.2 ∨ changedAt s n = false) ∧ ((loadP s h n).1.2 ≠ 0 → Cost 0 s h (loadP s h n).2.1 (loadP s h n).2.2) := by
  unfold loadP
  split
  · rename_i hr
    have h0 := (right_zero hr).1
    split
    · rename_i f hf
      obtain ⟨f1, f2⟩ := frOf_mem hf
      have e : changedAt s f.page = is2 f := by rw [f2]; unfold changedAt; rw [hf]; rfl
      have c := cost_use (h := h) f hk.once (fun hc => by rw [← e]; exact hc)
      refine ⟨c.mono (Nat.zero_le _), fun m hm => ?_, .inl c, fun _ => c⟩
      rw [chu] at hm
      by_cases em : m = f.page
      · rw [if_pos em] at hm; rw [em, e]; exact hm
      · rw [if_neg em] at hm; exact hm
    · rename_i hf
      have hn := frOf_not hf
      obtain ⟨r1, r2, r3⟩ := room_once (h := h) hk
      have a := cost_room (h := h) hk h0
      have hcn : changedAt s n = false := ch_none hn
      dsimp only
      split
      · rename_i hz
        have hz0 := room_err hk h0 hz
        have c := cost_fetch (h := (roomP s h).2.2) r1 hz0 (r2 n hn)
        refine ⟨(a.trans c).mono (by split <;> omega), fun m hm => ?_, .inr hcn, fun hne => by rw [if_neg hne] at c; exact a.trans c⟩
        refine r3 m ?_
        have hu : ∀ t i, i ≠ 2 → changedAt (useP (roomP s h).2.1 ⟨n, t, i⟩) m = true → changedAt (roomP s h).2.1 m = true := fun t i hi hh => by
          rw [chu] at hh
          split at hh
          · exact absurd (by simpa [is2] using hh) hi
          · exact hh
        unfold fetchP at hm
        split at hm
        · dsimp only at hm
          split at hm
          · split at hm
            · exact hu _ _ (by omega) hm
            · exact hm
          · exact hm
        · exact hu _ _ (by omega) hm
      · exact ⟨a.mono (Nat.zero_le _), r3, .inr hcn, fun _ => a⟩
  · exact ⟨(Cost.refl s h).mono (Nat.zero_le _), fun m hm => hm, .inl (Cost.refl s h), fun _ => Cost.refl s h⟩
theorem room_fail (h0 : s.err = 0) (hz : (roomP s h).1 ≠ 0) : (roomP s h).2.2.ops + 2 * s.writes + chg s + dE s + 1 ≤ h.ops + 2 * (roomP s h).2.1.writes + chg (roomP s h).2.1 + dE (roomP s h).2.1 := by
  unfold roomP at hz ⊢
  split
  · rename_i hl; rw [if_pos hl] at hz; exact absurd rfl hz
  · rename_i hl
    rw [if_neg hl] at hz
    dsimp only at hz ⊢
    split
    · rename_i hc
      rw [if_pos hc] at hz
      split
      · rename_i hw; rw [if_pos hw] at hz; exact absurd rfl hz
      · rename_i hw
        rw [if_neg hw] at hz
        have ho := (near_write s h ((s.held.head?.map Fr.page).getD 0)).ops
        obtain ⟨_, e⟩ := writeP_errs s h _ hw
        have e1 : chg (writeP s h ((s.held.head?.map Fr.page).getD 0)).2.1 = chg s := by rw [e]; rfl
        have e2 : dE (writeP s h ((s.held.head?.map Fr.page).getD 0)).2.1 = 8 := by rw [e]; unfold dE; exact if_neg hw
        have e3 : (writeP s h ((s.held.head?.map Fr.page).getD 0)).2.1.writes = s.writes := by rw [e]; rfl
        have e4 : dE s = 0 := if_pos h0
        rw [e1, e2, e3, e4]
        omega
    · rename_i hc; rw [if_neg hc] at hz; exact absurd rfl hz
theorem cost_save (hk : Ok s) (n : Int) (t : Bytes) : Cost 0 s h (saveP s h n t).2.1 (saveP s h n t).2.2 ∧ (rightP s n = 0 → t.length = s.text → changedAt s n = false → (saveP s h n t).2.2.ops + 2 * s.writes + chg s + dE s + 1 ≤ h.ops + 2 * (saveP s h n t).2.1.writes + chg (saveP s h n t).2.1 + dE (saveP s h n t).2.1) := by
  have gain : ∀ {s : PS} {h : HS}, (numbers s).Nodup → changedAt s n = false → h.ops + 2 * s.writes + chg s + dE s + 1 ≤ h.ops + 2 * (useP s ⟨n, t, 2⟩).writes + chg (useP s ⟨n, t, 2⟩) + dE (useP s ⟨n, t, 2⟩) := fun {s h} hk hc => by
    have := cnt_filter n hk
    have e : chg (useP s ⟨n, t, 2⟩) = (s.held.filter fun g => !(g.page == n)).countP is2 + 1 := chg_use (s := s) ⟨n, t, 2⟩
    have e1 : (useP s ⟨n, t, 2⟩).writes = s.writes := rfl
    have e2 : dE (useP s ⟨n, t, 2⟩) = dE s := rfl
    rw [e1, e2, e]
    change chg s ≤ _ at this
    rw [← ch_is, hc] at this
    change chg s ≤ _ + 0 at this
    omega
  unfold saveP
  split
  · rename_i hr
    have h0 := (right_zero hr).1
    split
    · split
      · exact ⟨cost_use _ hk.once (fun _ => rfl), fun _ _ hc => gain hk.once hc⟩
      · rename_i hf
        have hn := frOf_not hf
        obtain ⟨r1, r2, r3⟩ := room_once (h := h) hk
        have a := cost_room (h := h) hk h0
        dsimp only
        split
        · have hc2 : changedAt (roomP s h).2.1 n = false := ch_none (r2 n hn)
          refine ⟨(a.trans (cost_use _ r1 (fun _ => rfl))).mono (Nat.le_refl _), fun _ _ _ => ?_⟩
          have := gain (h := (roomP s h).2.2) r1 hc2
          unfold Cost at a
          dsimp only at this ⊢
          omega
        · rename_i hz
          refine ⟨a, fun _ _ _ => ?_⟩
          exact room_fail h0 hz
    · rename_i hl; exact ⟨Cost.refl s h, fun _ hh => absurd hh hl⟩
  · rename_i hr; exact ⟨Cost.refl s h, fun hh => absurd hh hr⟩
end
end Go.Sl.PagerS
namespace Go.Sl.SlotS
open Go Go.Sl Go.Sl.HostS Go.Sl.PagerS
attribute [local irreducible] pgSealB pgOpenR PagerS.loadP PagerS.saveP
structure Two (p t : PS) (h g : HS) : Prop where
  q1 : ∃ b, Sound p h b
  q2 : ∃ b, Sound t g b
  s : SRel p t
  hr : HRel h g
  i : HI p h
section
variable {s : SL} {p t : PS} {h g : HS}
theorem Two.load (k : Two p t h g) (n : Int) : Two (loadP p h n).2.1 (loadP t g n).2.1 (loadP p h n).2.2 (loadP t g n).2.2 ∧ (loadP p h n).1.2 = (loadP t g n).1.2 ∧ ((loadP p h n).1.2 = 0 → (loadP p h n).1.1.length = p.text ∧ (loadP t g n).1.1.length = p.text ∧ (loadP p h n).2.1.err = 0) := by
  obtain ⟨b, q1⟩ := k.q1
  obtain ⟨b', q2⟩ := k.q2
  obtain ⟨e1, a1, a2, a3, _⟩ := q1.load n
  obtain ⟨e2, c1, c2, c3, _⟩ := q2.load n
  obtain ⟨r1, r2, r3⟩ := load_rel2 k.s k.hr q1 q2 n
  refine ⟨⟨⟨b, a2⟩, ⟨b', c2⟩, r2, r3, k.i.load q1.ok n⟩, r1, fun h0 => ?_⟩
  have h0' := h0
  rw [r1] at h0'
  rw [a1] at h0
  rw [c1] at h0'
  dsimp only at h0 h0'
  rw [a1, c1]
  dsimp only
  rw [if_pos h0, if_pos h0', k.s.text]
  exact ⟨by rw [← k.s.text]; exact q1.len n, q2.len n, a3 h0⟩
theorem Two.save (k : Two p t h g) (n : Int) {x y : Bytes} (hxy : x.length = y.length) : Two (saveP p h n x).2.1 (saveP t g n y).2.1 (saveP p h n x).2.2 (saveP t g n y).2.2 ∧ (saveP p h n x).1 = (saveP t g n y).1 := by
  obtain ⟨b, q1⟩ := k.q1
  obtain ⟨b', q2⟩ := k.q2
  obtain ⟨a2, _⟩ := q1.save n x
  obtain ⟨c2, _⟩ := q2.save n y
  obtain ⟨r1, r2, r3⟩ := save_rel k.s k.hr q1.ok q2.ok q1.over q2.over n hxy
  exact ⟨⟨⟨_, a2⟩, ⟨_, c2⟩, r2, r3, k.i.save q1.ok n x⟩, r1⟩
theorem Two.ok (k : Two p t h g) : Ok p := by obtain ⟨b, q⟩ := k.q1; exact q.ok
theorem Two.get (k : Two p t h g) {i : Nat} (hi : i < s.n) : (getS s p h i).2.1 = touch s 0 i 0 ∧ (getS s t g i).2.1 = touch s 0 i 0 ∧ Two (getS s p h i).2.2.1 (getS s t g i).2.2.1 (getS s p h i).2.2.2 (getS s t g i).2.2.2 ∧ Cost 1 p h (getS s p h i).2.2.1 (getS s p h i).2.2.2 := by
  obtain ⟨a, _⟩ := k.load (pg s i)
  obtain ⟨c, _⟩ := cost_load (h := h) k.ok ((pg s i : Nat) : Int)
  have e : ∀ (p : PS) (h : HS), (getS s p h i).2 = (touch s 0 i 0, (loadP p h (pg s i)).2) := fun p h => by
    unfold getS
    rw [if_pos (has_nat hi), Int.toNat_natCast]
  rw [e p h, e t g]
  exact ⟨rfl, rfl, a, c⟩
theorem Two.set (k : Two p t h g) (f : Fit s p) {i : Nat} (hi : i < s.n) {x y : Bytes} (hx : x.length = s.size) (hy : y.length = s.size) : (setS s p h i x).2.1 = touch s 1 i 0 ∧ (setS s t g i y).2.1 = touch s 1 i 0 ∧ Two (setS s p h i x).2.2.1 (setS s t g i y).2.2.1 (setS s p h i x).2.2.2 (setS s t g i y).2.2.2 ∧ Cost 1 p h (setS s p h i x).2.2.1 (setS s p h i x).2.2.2 := by
  obtain ⟨a, ae, al⟩ := k.load (pg s i)
  obtain ⟨cl, _⟩ := cost_load (h := h) k.ok ((pg s i : Nat) : Int)
  have h1 := f.from i
  have e : ∀ (p : PS) (h : HS) (x : Bytes), x.length = s.size → (setS s p h i x).2 = (touch s 1 i 0, if (loadP p h (pg s i)).1.2 = 0 then (saveP (loadP p h (pg s i)).2.1 (loadP p h (pg s i)).2.2 (pg s i) (lay (loadP p h (pg s i)).1.1 (fr s i) x)).2 else (loadP p h (pg s i)).2) := fun p h x hx => by
    unfold setS
    rw [if_pos (has_nat hi), if_pos hx, Int.toNat_natCast]
    dsimp only
    split <;> rfl
  rw [e p h x hx, e t g y hy]
  refine ⟨rfl, rfl, ?_⟩
  by_cases h0 : (loadP p h (pg s i)).1.2 = 0
  · have h0' := h0
    rw [ae] at h0'
    obtain ⟨a3, a4, _⟩ := al h0
    dsimp only
    rw [if_pos h0, if_pos h0']
    obtain ⟨c, _⟩ := a.save (pg s i) (x := lay (loadP p h (pg s i)).1.1 (fr s i) x) (y := lay (loadP t g (pg s i)).1.1 (fr s i) y) (by rw [lay_len (by rw [a3, hx]; exact h1), lay_len (by rw [a4, hy]; exact h1), a3, a4])
    exact ⟨c, cl.trans (cost_save a.ok _ _).1⟩
  · have h0' := h0
    rw [ae] at h0'
    dsimp only
    rw [if_neg h0, if_neg h0']
    exact ⟨a, cl⟩
structure PL2 (s : SL) (p t : PS) (h g : HS) (i j : Nat) : Prop where
  eq : (pairL s p h i j).1.1 = (pairL s t g i j).1.1
  lens : (pairL s p h i j).1.1 = 0 → (pairL s p h i j).1.2.1.length = p.text ∧ (pairL s p h i j).1.2.2.length = p.text ∧ (pairL s t g i j).1.2.1.length = p.text ∧ (pairL s t g i j).1.2.2.length = p.text ∧ (pairL s p h i j).2.1.err = 0
  two : Two (pairL s p h i j).2.1 (pairL s t g i j).2.1 (pairL s p h i j).2.2 (pairL s t g i j).2.2
  near : Near 4 2 p h (pairL s p h i j).2.1 (pairL s p h i j).2.2
  cost0 : (pairL s p h i j).1.1 ≠ 0 → Cost 1 p h (pairL s p h i j).2.1 (pairL s p h i j).2.2
  cost : Cost 1 p h (pairL s p h i j).2.1 (pairL s p h i j).2.2 ∨ (Cost 2 p h (pairL s p h i j).2.1 (pairL s p h i j).2.2 ∧ changedAt (pairL s p h i j).2.1 (pg s i) = false)
theorem Two.pairL (k : Two p t h g) (i j : Nat) : PL2 s p t h g i j := by
  obtain ⟨a, ae, al⟩ := k.load (pg s i)
  obtain ⟨c1, c2, c3, c4⟩ := cost_load (h := h) k.ok ((pg s i : Nat) : Int)
  have n1 := near_load p h ((pg s i : Nat) : Int)
  by_cases h0 : (loadP p h (pg s i)).1.2 = 0
  · have h0' := h0
    rw [ae] at h0'
    obtain ⟨a3, a4, a5⟩ := al h0
    by_cases e : pg s j = pg s i
    · have ee : ∀ (p : PS) (h : HS), (loadP p h (pg s i)).1.2 = 0 → SlotS.pairL s p h i j = ((0, (loadP p h (pg s i)).1.1, (loadP p h (pg s i)).1.1), (loadP p h (pg s i)).2) := fun p h h0 => by
        unfold SlotS.pairL
        dsimp only
        rw [if_pos h0, if_pos e]
      have x1 := ee p h h0
      have x2 := ee t g h0'
      refine ⟨?_, ?_, ?_, ?_, ?_, ?_⟩ <;> simp only [x1, x2]
      · exact fun _ => ⟨a3, a3, a4, a4, a5⟩
      · exact a
      · exact n1.trans (Near.refl 2 1 _ _) (by omega) (by omega)
      · exact fun hh => absurd rfl hh
      · exact .inl c1
    · obtain ⟨b, be, bl⟩ := a.load (pg s j)
      obtain ⟨d1, d2, d3, d4⟩ := cost_load (h := (loadP p h (pg s i)).2.2) a.ok ((pg s j : Nat) : Int)
      have n2 := near_load (loadP p h (pg s i)).2.1 (loadP p h (pg s i)).2.2 ((pg s j : Nat) : Int)
      rw [n1.text] at bl
      by_cases h2 : (loadP (loadP p h (pg s i)).2.1 (loadP p h (pg s i)).2.2 (pg s j)).1.2 = 0
      · have h2' := h2
        rw [be] at h2'
        obtain ⟨b3, b4, b5⟩ := bl h2
        have ee : ∀ (p : PS) (h : HS), (loadP p h (pg s i)).1.2 = 0 → (loadP (loadP p h (pg s i)).2.1 (loadP p h (pg s i)).2.2 (pg s j)).1.2 = 0 → SlotS.pairL s p h i j = ((0, (loadP p h (pg s i)).1.1, (loadP (loadP p h (pg s i)).2.1 (loadP p h (pg s i)).2.2 (pg s j)).1.1), (loadP (loadP p h (pg s i)).2.1 (loadP p h (pg s i)).2.2 (pg s j)).2) := fun p h h0 h1 => by
          unfold SlotS.pairL
          dsimp only
          rw [if_pos h0, if_neg e, if_pos h1]
        have x1 := ee p h h0 h2
        have x2 := ee t g h0' h2'
        refine ⟨?_, ?_, ?_, ?_, ?_, ?_⟩ <;> simp only [x1, x2]
        · exact fun _ => ⟨a3, b3, a4, b4, b5⟩
        · exact b
        · exact n1.trans n2 (by omega) (by omega)
        · exact fun hh => absurd rfl hh
        · rcases c3 with c3|c3
          · exact .inl (c3.trans d1)
          · refine .inr ⟨c1.trans d1, ?_⟩
            cases hq : changedAt (loadP (loadP p h (pg s i)).2.1 (loadP p h (pg s i)).2.2 (pg s j)).2.1 (pg s i)
            · rfl
            · have := c2 _ (d2 _ hq)
              rw [c3] at this; cases this
      · have h2' := h2
        rw [be] at h2'
        have ee : ∀ (p : PS) (h : HS), (loadP p h (pg s i)).1.2 = 0 → (loadP (loadP p h (pg s i)).2.1 (loadP p h (pg s i)).2.2 (pg s j)).1.2 ≠ 0 → SlotS.pairL s p h i j = (((loadP (loadP p h (pg s i)).2.1 (loadP p h (pg s i)).2.2 (pg s j)).1.2, [], []), (loadP (loadP p h (pg s i)).2.1 (loadP p h (pg s i)).2.2 (pg s j)).2) := fun p h h0 h1 => by
          unfold SlotS.pairL
          dsimp only
          rw [if_pos h0, if_neg e, if_neg h1]
        have x1 := ee p h h0 h2
        have x2 := ee t g h0' h2'
        refine ⟨?_, ?_, ?_, ?_, ?_, ?_⟩ <;> simp only [x1, x2]
        · exact be
        · exact fun hh => absurd hh h2
        · exact b
        · exact n1.trans n2 (by omega) (by omega)
        · exact fun _ => c1.trans (d4 h2)
        · exact .inl (c1.trans (d4 h2))
  · have h0' := h0
    rw [ae] at h0'
    have ee : ∀ (p : PS) (h : HS), (loadP p h (pg s i)).1.2 ≠ 0 → SlotS.pairL s p h i j = (((loadP p h (pg s i)).1.2, [], []), (loadP p h (pg s i)).2) := fun p h h0 => by
      unfold SlotS.pairL
      dsimp only
      rw [if_neg h0]
    have x1 := ee p h h0
    have x2 := ee t g h0'
    refine ⟨?_, ?_, ?_, ?_, ?_, ?_⟩ <;> simp only [x1, x2]
    · exact ae
    · exact fun hh => absurd hh h0
    · exact a
    · exact n1.trans (Near.refl 2 1 _ _) (by omega) (by omega)
    · exact fun _ => c1
    · exact .inl c1
theorem Two.pairE (k : Two p t h g) (f : Fit s p) {i j : Nat} (hi : i < s.n) (h0 : p.err = 0) {tI tJ a b tI' tJ' a' b' : Bytes} (l1 : tI.length = p.text) (l2 : tJ.length = p.text) (m1 : tI'.length = p.text) (m2 : tJ'.length = p.text) (ha : a.length = s.size) (hb : b.length = s.size) (ha' : a'.length = s.size) (hb' : b'.length = s.size) :
    Two (pairE s p h i j tI tJ a b).2.1 (pairE s t g i j tI' tJ' a' b').2.1 (pairE s p h i j tI tJ a b).2.2 (pairE s t g i j tI' tJ' a' b').2.2 ∧ Cost 0 p h (pairE s p h i j tI tJ a b).2.1 (pairE s p h i j tI tJ a b).2.2 ∧ (changedAt p (pg s i) = false → (pairE s p h i j tI tJ a b).2.2.ops + 2 * p.writes + chg p + dE p + 1 ≤ h.ops + 2 * (pairE s p h i j tI tJ a b).2.1.writes + chg (pairE s p h i j tI tJ a b).2.1 + dE (pairE s p h i j tI tJ a b).2.1) := by
  have h1 := f.from i
  have h2 := f.from j
  have hr : rightP p (pg s i : Nat) = 0 := by
    have := f.page hi
    unfold rightP
    rw [if_neg (fun hh => hh h0), if_neg (by omega)]
  have x1 : (lay tI (fr s i) a).length = p.text := by rw [lay_len (by rw [l1, ha]; exact h1), l1]
  have x2 : (lay tI' (fr s i) a').length = p.text := by rw [lay_len (by rw [m1, ha']; exact h1), m1]
  by_cases e : pg s j = pg s i
  · have ee : ∀ (p : PS) (h : HS) (tI tJ a b : Bytes), SlotS.pairE s p h i j tI tJ a b = saveP p h (pg s i) (lay (lay tI (fr s i) a) (fr s j) b) := fun p h tI tJ a b => by
      unfold SlotS.pairE
      rw [if_pos e]
    rw [ee, ee]
    have y1 : (lay (lay tI (fr s i) a) (fr s j) b).length = p.text := by rw [lay_len (by rw [x1, hb]; exact h2), x1]
    have y2 : (lay (lay tI' (fr s i) a') (fr s j) b').length = p.text := by rw [lay_len (by rw [x2, hb']; exact h2), x2]
    obtain ⟨c1, c2⟩ := cost_save (h := h) k.ok (pg s i : Nat) (lay (lay tI (fr s i) a) (fr s j) b)
    exact ⟨(k.save (pg s i) (y1.trans y2.symm)).1, c1, c2 hr y1⟩
  · obtain ⟨c, ce⟩ := k.save (pg s i) (x1.trans x2.symm)
    obtain ⟨c1, c2⟩ := cost_save (h := h) k.ok (pg s i : Nat) (lay tI (fr s i) a)
    have ee : ∀ (p : PS) (h : HS) (tI tJ a b : Bytes), SlotS.pairE s p h i j tI tJ a b = if (saveP p h (pg s i) (lay tI (fr s i) a)).1 = 0 then saveP (saveP p h (pg s i) (lay tI (fr s i) a)).2.1 (saveP p h (pg s i) (lay tI (fr s i) a)).2.2 (pg s j) (lay tJ (fr s j) b) else saveP p h (pg s i) (lay tI (fr s i) a) := fun p h tI tJ a b => by
      unfold SlotS.pairE
      rw [if_neg e]
    rw [ee, ee]
    by_cases hz : (saveP p h (pg s i) (lay tI (fr s i) a)).1 = 0
    · have hz' := hz
      rw [ce] at hz'
      rw [if_pos hz, if_pos hz']
      have y1 : (lay tJ (fr s j) b).length = p.text := by rw [lay_len (by rw [l2, hb]; exact h2), l2]
      have y2 : (lay tJ' (fr s j) b').length = p.text := by rw [lay_len (by rw [m2, hb']; exact h2), m2]
      obtain ⟨d1, _⟩ := cost_save (h := (saveP p h (pg s i) (lay tI (fr s i) a)).2.2) c.ok (pg s j : Nat) (lay tJ (fr s j) b)
      refine ⟨(c.save (pg s j) (y1.trans y2.symm)).1, c1.trans d1, fun hc => ?_⟩
      have := c2 hr x1 hc
      unfold Cost at d1
      omega
    · have hz' := hz
      rw [ce] at hz'
      rw [if_neg hz, if_neg hz']
      exact ⟨c, c1, c2 hr x1⟩
end
end Go.Sl.SlotS
namespace Go.Sl.SlotS
open Go Go.Sl Go.Sl.HostS Go.Sl.PagerS
attribute [local irreducible] pgSealB pgOpenR PagerS.loadP PagerS.saveP
def zb (n : Nat) : Bytes := List.replicate n 0#8
theorem zb_len (n : Nat) : (zb n).length = n := by simp [zb]
def slv (s0 : SL) (log : List Acc) : SL := { s0 with log := log }
def ghost1 (s0 : SL) (tg : PS × HS) (a : Acc) : PS × HS :=
  if a.1 = 0 then (getS s0 tg.1 tg.2 a.2.1).2.2
  else if a.1 = 1 then (setS s0 tg.1 tg.2 a.2.1 (zb s0.size)).2.2
  else if (pairL s0 tg.1 tg.2 a.2.1.toNat a.2.2.toNat).1.1 = 0 then
    (pairE s0 (pairL s0 tg.1 tg.2 a.2.1.toNat a.2.2.toNat).2.1 (pairL s0 tg.1 tg.2 a.2.1.toNat a.2.2.toNat).2.2 a.2.1.toNat a.2.2.toNat (pairL s0 tg.1 tg.2 a.2.1.toNat a.2.2.toNat).1.2.1 (pairL s0 tg.1 tg.2 a.2.1.toNat a.2.2.toNat).1.2.2 (zb s0.size) (zb s0.size)).2
  else (pairL s0 tg.1 tg.2 a.2.1.toNat a.2.2.toNat).2
def ghost (s0 : SL) (tg : PS × HS) (log : List Acc) : PS × HS := log.foldl (ghost1 s0) tg
theorem ghost_snoc (s0 : SL) (tg : PS × HS) (log : List Acc) (a : Acc) : ghost s0 tg (log ++ [a]) = ghost1 s0 (ghost s0 tg log) a := by unfold ghost; rw [List.foldl_append]; rfl
theorem getS_slv (s0 : SL) (log : List Acc) (p : PS) (h : HS) (i : Int) : (getS (slv s0 log) p h i).2.2 = (getS s0 p h i).2.2 := by
  unfold getS
  have e : has (slv s0 log) i ↔ has s0 i := Iff.rfl
  by_cases hh : has s0 i
  · rw [if_pos hh, if_pos (e.2 hh)]; rfl
  · rw [if_neg hh, if_neg (fun h => hh (e.1 h))]
theorem setS_slv (s0 : SL) (log : List Acc) (p : PS) (h : HS) (i : Int) (b : Bytes) : (setS (slv s0 log) p h i b).2.2 = (setS s0 p h i b).2.2 := by
  unfold setS
  have e : has (slv s0 log) i ↔ has s0 i := Iff.rfl
  by_cases hh : has s0 i
  · rw [if_pos hh, if_pos (e.2 hh)]
    by_cases hb : b.length = s0.size
    · rw [if_pos hb, if_pos (show b.length = (slv s0 log).size from hb)]
      show (if (loadP p h (pg s0 i.toNat)).1.2 = 0 then _ else _ : Nat × St3).2.2 = _
      dsimp only
      split <;> rfl
    · rw [if_neg hb, if_neg (show ¬ b.length = (slv s0 log).size from hb)]
  · rw [if_neg hh, if_neg (fun h => hh (e.1 h))]
structure QI (s0 : SL) (tg : PS × HS) (rows : List Bytes) (log : List Acc) (p : PS) (h : HS) (b : Int → Bytes) : Prop where
  quiet : Quiet p h b
  two : Two p (ghost s0 tg log).1 h (ghost s0 tg log).2
  fit : Fit (slv s0 log) p
  len : rows.length = s0.n
  row : ∀ k, k < s0.n → rows.getD k [] = slotB s0 b k
  wr : p.writes ≤ 4 * log.length
  ops : h.ops ≤ 6 * log.length
section
variable {s0 : SL} {tg : PS × HS} {rows : List Bytes} {log : List Acc} {p : PS} {h : HS} {b : Int → Bytes}
theorem QI.fit0 (k : QI s0 tg rows log p h b) : Fit s0 p := ⟨k.fit.size, k.fit.le, k.fit.per, k.fit.room⟩
theorem QI.rlen (k : QI s0 tg rows log p h b) {m : Nat} (hm : m < s0.n) : (rows.getD m []).length = s0.size := by rw [k.row m hm]; exact slotB_len k.fit0 k.quiet.sound.len m
theorem snoc_len {α : Type} (l : List α) (a : α) : (l ++ [a]).length = l.length + 1 := by simp
theorem QI.get (k : QI s0 tg rows log p h b) (hl : log.length ≤ 2000000) {m : Nat} (hm : m < s0.n) : (getS (slv s0 log) p h m).1 = (rows.getD m [], 0) ∧ (getS (slv s0 log) p h m).2.1 = slv s0 (log ++ [(0, (m : Int), 0)]) ∧ QI s0 tg rows (log ++ [(0, (m : Int), 0)]) (getS (slv s0 log) p h m).2.2.1 (getS (slv s0 log) p h m).2.2.2 b := by
  have hw := k.wr
  obtain ⟨a1, a2, a3⟩ := get_q k.quiet k.fit (i := m) hm (by omega)
  obtain ⟨_, _, t1, _⟩ := k.two.get (s := slv s0 log) (i := m) hm
  have nr := get_near (slv s0 log) p h (m : Int)
  have h1 := nr.writes; have h2 := nr.ops; have h3 := k.ops
  have e := snoc_len log ((0, (m : Int), 0) : Acc)
  refine ⟨by rw [a1, k.row m hm]; rfl, a2, a3, ?_, ?_, k.len, k.row, by omega, by omega⟩
  · rw [ghost_snoc]
    have : ghost1 s0 (ghost s0 tg log) (0, (m : Int), 0) = (getS (slv s0 log) (ghost s0 tg log).1 (ghost s0 tg log).2 m).2.2 := by rw [getS_slv]; rfl
    rw [this]
    exact t1
  · exact (k.fit.touch 0 m 0).same nr.text nr.spages
theorem QI.set (k : QI s0 tg rows log p h b) (hl : log.length ≤ 2000000) {m : Nat} (hm : m < s0.n) {v : Bytes} (hv : v.length = s0.size) : (setS (slv s0 log) p h m v).1 = 0 ∧ (setS (slv s0 log) p h m v).2.1 = slv s0 (log ++ [(1, (m : Int), 0)]) ∧ QI s0 tg (rows.set m v) (log ++ [(1, (m : Int), 0)]) (setS (slv s0 log) p h m v).2.2.1 (setS (slv s0 log) p h m v).2.2.2 (putB s0 b m v) := by
  have hw := k.wr
  obtain ⟨a1, a2, a3⟩ := set_q k.quiet k.fit (i := m) hm (by omega) hv
  obtain ⟨_, _, t1, _⟩ := k.two.set (s := slv s0 log) k.fit (i := m) hm hv (zb_len s0.size)
  have nr := set_near (slv s0 log) p h (m : Int) v
  have h1 := nr.writes; have h2 := nr.ops; have h3 := k.ops
  have e := snoc_len log ((1, (m : Int), 0) : Acc)
  refine ⟨a1, a2, a3, ?_, ?_, by rw [List.length_set]; exact k.len, ?_, by omega, by omega⟩
  · rw [ghost_snoc]
    have : ghost1 s0 (ghost s0 tg log) (1, (m : Int), 0) = (setS (slv s0 log) (ghost s0 tg log).1 (ghost s0 tg log).2 m (zb s0.size)).2.2 := by rw [setS_slv]; rfl
    rw [this]
    exact t1
  · exact (k.fit.touch 1 m 0).same nr.text nr.spages
  · intro j hj
    rw [putB_at k.fit0 k.quiet.sound.len hv, List.getD_eq_getElem?_getD, List.getElem?_set]
    by_cases e : m = j
    · subst e; rw [if_pos rfl, if_pos (by rw [k.len]; exact hm), if_pos rfl]; rfl
    · rw [if_neg e, if_neg (fun hh => e hh.symm), ← List.getD_eq_getElem?_getD]; exact k.row j hj
theorem QI.pair (k : QI s0 tg rows log p h b) (hl : log.length ≤ 2000000) {m j : Nat} (hm : m < s0.n) (hj : j < s0.n) (hmj : m ≠ j) {v w : Bytes} (hv : v.length = s0.size) (hw' : w.length = s0.size) :
    (pairL (slv s0 log) p h m j).1.1 = 0 ∧ part (pairL (slv s0 log) p h m j).1.2.1 (fr s0 m) s0.size = rows.getD m [] ∧ part (pairL (slv s0 log) p h m j).1.2.2 (fr s0 j) s0.size = rows.getD j [] ∧
    (pairE (slv s0 log) (pairL (slv s0 log) p h m j).2.1 (pairL (slv s0 log) p h m j).2.2 m j (pairL (slv s0 log) p h m j).1.2.1 (pairL (slv s0 log) p h m j).1.2.2 v w).1 = 0 ∧
    QI s0 tg ((rows.set m v).set j w) (log ++ [(2, (m : Int), (j : Int))]) (pairE (slv s0 log) (pairL (slv s0 log) p h m j).2.1 (pairL (slv s0 log) p h m j).2.2 m j (pairL (slv s0 log) p h m j).1.2.1 (pairL (slv s0 log) p h m j).1.2.2 v w).2.1 (pairE (slv s0 log) (pairL (slv s0 log) p h m j).2.1 (pairL (slv s0 log) p h m j).2.2 m j (pairL (slv s0 log) p h m j).1.2.1 (pairL (slv s0 log) p h m j).1.2.2 v w).2.2 (putB s0 (putB s0 b m v) j w) := by
  have hw := k.wr
  obtain ⟨a1, a2, n1⟩ := pairL_q k.quiet k.fit (i := m) (j := j) hm hj (by omega)
  have hpl := k.two.pairL (s := slv s0 log) m j
  have f1 : Fit (slv s0 log) (pairL (slv s0 log) p h m j).2.1 := k.fit.same n1.text n1.spages
  have w1 := n1.writes
  have e1 : (pairL (slv s0 log) p h m j).1.1 = 0 := by rw [a1]
  have e2 : (pairL (slv s0 log) p h m j).1.2.1 = b (pg s0 m) := by rw [a1]; rfl
  have e3 : (pairL (slv s0 log) p h m j).1.2.2 = b (pg s0 j) := by rw [a1]; rfl
  obtain ⟨c1, c2⟩ := pairE_q a2 f1 (i := m) (j := j) hm hj (by omega) hv hw'
  obtain ⟨l1, l2, l3, l4, l5⟩ := hpl.lens e1
  obtain ⟨t1, _, _⟩ := hpl.two.pairE f1 (i := m) hm (j := j) l5 (l1.trans n1.text.symm) (l2.trans n1.text.symm) (l3.trans n1.text.symm) (l4.trans n1.text.symm) hv hw' (zb_len s0.size) (zb_len s0.size)
  have n2 := pairE_near (slv s0 log) (pairL (slv s0 log) p h m j).2.1 (pairL (slv s0 log) p h m j).2.2 m j (pairL (slv s0 log) p h m j).1.2.1 (pairL (slv s0 log) p h m j).1.2.2 v w
  have w2 := n2.writes; have o1 := n1.ops; have o2 := n2.ops; have h3 := k.ops
  have e := snoc_len log ((2, (m : Int), (j : Int)) : Acc)
  have hg : ghost s0 tg (log ++ [(2, (m : Int), (j : Int))]) = (pairE (slv s0 log) (pairL (slv s0 log) (ghost s0 tg log).1 (ghost s0 tg log).2 m j).2.1 (pairL (slv s0 log) (ghost s0 tg log).1 (ghost s0 tg log).2 m j).2.2 m j (pairL (slv s0 log) (ghost s0 tg log).1 (ghost s0 tg log).2 m j).1.2.1 (pairL (slv s0 log) (ghost s0 tg log).1 (ghost s0 tg log).2 m j).1.2.2 (zb s0.size) (zb s0.size)).2 := by
    rw [ghost_snoc]
    have e0 : (pairL s0 (ghost s0 tg log).1 (ghost s0 tg log).2 ((m : Int).toNat) ((j : Int).toNat)).1.1 = 0 := by
      show (pairL (slv s0 log) (ghost s0 tg log).1 (ghost s0 tg log).2 m j).1.1 = 0
      rw [← hpl.eq, e1]
    unfold ghost1
    rw [if_neg (show ¬ ((2 : Int) = 0) by decide), if_neg (show ¬ ((2 : Int) = 1) by decide), if_pos e0]
    rfl
  refine ⟨e1, ?_, ?_, ?_, ?_, ?_, ?_, by rw [List.length_set, List.length_set]; exact k.len, ?_, by omega, by omega⟩
  · rw [e2, k.row m hm]; rfl
  · rw [e3, k.row j hj]; rfl
  · rw [e2, e3]; exact c1
  · rw [e2, e3]; exact c2
  · rw [hg]; exact t1
  · exact (f1.touch 2 m j).same n2.text n2.spages
  · intro y hy
    have hb1 := putB_len k.fit0 k.quiet.sound.len hv m
    rw [putB_at k.fit0 hb1 hw', putB_at k.fit0 k.quiet.sound.len hv, List.getD_eq_getElem?_getD, List.getElem?_set, List.getElem?_set]
    by_cases e : j = y
    · subst e; rw [if_pos rfl, if_pos (by rw [List.length_set, k.len]; exact hj), if_pos rfl]; rfl
    · rw [if_neg e, if_neg (show ¬ y = j from fun hh => e hh.symm)]
      by_cases e' : m = y
      · subst e'; rw [if_pos rfl, if_pos (show m < rows.length by rw [k.len]; exact hm), if_pos rfl]; rfl
      · rw [if_neg e', if_neg (show ¬ y = m from fun hh => e' hh.symm), ← List.getD_eq_getElem?_getD]; exact k.row y hy
end
theorem qi_fresh {key : Bytes} {round : BitVec 64} {window text n size : Nat} {pages : Int} (hk : key.length = 32) (hw : 2 ≤ window ∧ window ≤ 16) (hp : 0 ≤ pages ∧ pages ≤ 65536) (ht : 1 ≤ text ∧ text ≤ 4096)
    (hs : newS 0 n size (freshP key round window pages text) = 0) :
    QI (freshS 0 n size (freshP key round window pages text)) (freshP (zb 32) round window pages text, fresh pages (text + 28) []) (List.replicate n (zb size)) [] (freshP key round window pages text) (fresh pages (text + 28) []) (fun _ => List.replicate text 0#8) := by
  have hok := fun (key : Bytes) (hk : key.length = 32) => PagerS.ok_fresh (round := round) hk hw hp ht
  have hq := fun (key : Bytes) (hk : key.length = 32) => PagerS.quiet_fresh (hok key hk) (h := fresh pages (text + 28) []) rfl rfl (PagerS.calm_fresh _ _)
  have hf := fit_fresh hs
  have h1 := hq key hk
  have h2 := hq (zb 32) (zb_len 32)
  refine ⟨h1, ⟨⟨_, h1.sound⟩, ⟨_, h2.sound⟩, ⟨rfl, rfl, rfl, rfl, rfl, rfl, rfl, rfl, rfl⟩, ⟨rfl, rfl, rfl, rfl, rfl, fun _ => ⟨rfl, rfl⟩⟩, PagerS.hi_fresh rfl h1.sound.over⟩, ⟨hf.size, hf.le, hf.per, hf.room⟩, by rw [List.length_replicate]; rfl, ?_, Nat.zero_le _, Nat.zero_le _⟩
  intro k hk2
  have hk2 : k < n := hk2
  rw [List.getD_eq_getElem?_getD, List.getElem?_eq_getElem (by rw [List.length_replicate]; exact hk2), List.getElem_replicate]
  show zb size = _
  unfold slotB part zb
  have hfr := hf.from k
  have e : (freshS 0 n size (freshP key round window pages text)).size = size := rfl
  have e2 : (freshP key round window pages text).text = text := rfl
  rw [e, e2] at hfr
  rw [List.drop_replicate, List.take_replicate, e]
  congr 1
  omega
end Go.Sl.SlotS
namespace Go.Sl
open Go Go.Proofs
attribute [local irreducible] pt own old pur ex all den denOps denS xOps xC cX CX xthen xblk xcut xloop xng retX resX Calls PV Rd Con
attribute [local irreducible] hostA pgA PagerS.loadP PagerS.saveP
open SlotS (SL Acc Fit)
open PagerS (PS Over)
section
variable {q pp ph : Nat} {s : SL} {p : PS} {h : HostS.HS} {F : FuncId} {fi ca : Array Value} {X : List Asrt} {φ : List Byte → List Byte → List Byte × List Byte} {Y : List Byte → List Byte → Nat → Nat → List Asrt → Prop}
theorem pair_diff (f : Fit s p) (hk : PagerS.Ok p) (hov : Over p h) (hops : h.ops + 6 < 3518437208880) (hl : s.log.length ≤ 4000000000000) {i j : Nat} (hi : i < s.n) (hj : j < s.n) (hc : FCon F fi ca s.size X φ Y) (hpg : ¬ SlotS.pg s j = SlotS.pg s i) (he : (PagerS.loadP p h (SlotS.pg s i : Nat)).1.2 = 0) (he2 : (PagerS.loadP (PagerS.loadP p h (SlotS.pg s i : Nat)).2.1 (PagerS.loadP p h (SlotS.pg s i : Nat)).2.2 (SlotS.pg s j : Nat)).1.2 = 0) :
    Con Tryz.prog 32 [hp q, nvv i, nvv j, .func (.func F) fi ca] (slA q pp s :: pgA pp ph p :: hostA ph h :: X) (fun r M => ∃ A B E, A = SlotS.part (PagerS.loadP p h (SlotS.pg s i : Nat)).1.1 (SlotS.fr s i) s.size ∧ B = SlotS.part (PagerS.loadP (PagerS.loadP p h (SlotS.pg s i : Nat)).2.1 (PagerS.loadP p h (SlotS.pg s i : Nat)).2.2 (SlotS.pg s j : Nat)).1.1 (SlotS.fr s j) s.size ∧ E = SlotS.pairE s (PagerS.loadP (PagerS.loadP p h (SlotS.pg s i : Nat)).2.1 (PagerS.loadP p h (SlotS.pg s i : Nat)).2.2 (SlotS.pg s j : Nat)).2.1 (PagerS.loadP (PagerS.loadP p h (SlotS.pg s i : Nat)).2.1 (PagerS.loadP p h (SlotS.pg s i : Nat)).2.2 (SlotS.pg s j : Nat)).2.2 i j (PagerS.loadP p h (SlotS.pg s i : Nat)).1.1 (PagerS.loadP (PagerS.loadP p h (SlotS.pg s i : Nat)).2.1 (PagerS.loadP p h (SlotS.pg s i : Nat)).2.2 (SlotS.pg s j : Nat)).1.1 (φ A B).1 (φ A B).2 ∧ r = nvv E.1 ∧ ∃ a b Z, Y A B a b Z ∧ M = slA q pp (SlotS.touch s 2 i j) :: pgA pp ph E.2.1 :: hostA ph E.2.2 :: blk a (φ A B).1 :: blk b (φ A B).2 :: Z) := by
  have hij : i ≠ j := fun hh => hpg (by rw [hh])
  refine Con.slA fun la lc => ?_
  simp only [List.cons_append, List.nil_append]
  have ht1 := hk.t1
  have hp1 := hk.p1
  have hpage := f.page hi
  have hfi := f.from i
  have hfj := f.from j
  have hsz1 := f.size
  have hiz := f.small hi hp1 ht1
  have hjz := f.small hj hp1 ht1
  have hll := fun hk1 => SlotS.load_text (p := p) (h := h) (n := ((SlotS.pg s i : Nat) : Int)) he hk1
  have hld := load_x (p := pp) (ph := ph) hov (by omega) ((SlotS.pg s i : Nat) : Int)
  have hov1 := (PagerS.near_load p h ((SlotS.pg s i : Nat) : Int)).over hov
  have hop1 := (PagerS.near_load p h ((SlotS.pg s i : Nat) : Int)).ops
  have htx1 := (PagerS.near_load p h ((SlotS.pg s i : Nat) : Int)).text
  have hpageJ := f.page hj
  have hE : ∀ (p1 : PS) (h1 : HostS.HS) (tI tJ x y : List Byte), SlotS.pairE s p1 h1 i j tI tJ x y = if (PagerS.saveP p1 h1 ((SlotS.pg s i : Nat) : Int) (SlotS.lay tI (SlotS.fr s i) x)).1 = 0 then PagerS.saveP (PagerS.saveP p1 h1 ((SlotS.pg s i : Nat) : Int) (SlotS.lay tI (SlotS.fr s i) x)).2.1 (PagerS.saveP p1 h1 ((SlotS.pg s i : Nat) : Int) (SlotS.lay tI (SlotS.fr s i) x)).2.2 ((SlotS.pg s j : Nat) : Int) (SlotS.lay tJ (SlotS.fr s j) y) else PagerS.saveP p1 h1 ((SlotS.pg s i : Nat) : Int) (SlotS.lay tI (SlotS.fr s i) x) := fun p1 h1 tI tJ x y => by unfold SlotS.pairE; rw [if_neg hpg]
  simp only [hE]
  have htc := fun a c => stouch_x (q := q) (pp := pp) (s := s) (a := a) (c := c) 2 i j hl
  have hpl1 := fun a c => splace_x (q := q) (pp := pp) (s := SlotS.touch s 2 i j) (a := a) (c := c) i (f.touch 2 i j).per1 hiz (by show SlotS.fr s i ≤ 4096; omega) (by show SlotS.pg s i ≤ 65536; omega)
  have hpl2 := fun a c => splace_x (q := q) (pp := pp) (s := SlotS.touch s 2 i j) (a := a) (c := c) j (f.touch 2 i j).per1 hjz (by show SlotS.fr s j ≤ 4096; omega) (by show SlotS.pg s j ≤ 65536; omega)
  have hpd := fun a c g n cp bf bs fn h1 h2 h3 => splaced_x (q := q) (pp := pp) (s := SlotS.touch s 2 i j) (a := a) (c := c) (g := g) (n := n) (cp := cp) (bf := bf) (bs := bs) (f := fn) f.size h1 h2 h3
  have e1 : SlotS.pg (SlotS.touch s 2 i j) i = SlotS.pg s i := rfl
  have e2 : SlotS.fr (SlotS.touch s 2 i j) i = SlotS.fr s i := rfl
  have e1' : SlotS.pg (SlotS.touch s 2 i j) j = SlotS.pg s j := rfl
  have e2' : SlotS.fr (SlotS.touch s 2 i j) j = SlotS.fr s j := rfl
  have e3 : (SlotS.touch s 2 i j).size = s.size := rfl
  rw [e1, e2] at hpl1
  rw [e1', e2'] at hpl2
  rw [e3] at hpd
  have hh1 : SlotS.has s (i : Int) := SlotS.has_nat hi
  have hh2 : SlotS.has s (j : Int) := SlotS.has_nat hj
  have hijz : ¬ ((i : Int) = (j : Int)) := by omega
  clear e1 e1' e2 e2' hiz hjz
  generalize hs2 : SlotS.touch s 2 i j = s2 at *
  generalize (PagerS.loadP p h (SlotS.pg s i : Nat)).2.1 = p1 at *
  generalize (PagerS.loadP p h (SlotS.pg s i : Nat)).2.2 = h1 at *
  generalize (PagerS.loadP p h (SlotS.pg s i : Nat)).1.2 = er at *
  generalize (PagerS.loadP p h (SlotS.pg s i : Nat)).1.1 = B at *
  have hll2 := fun he hk2 => SlotS.load_text (p := p1) (h := h1) (n := ((SlotS.pg s j : Nat) : Int)) he hk2
  have hld2 := load_x (p := pp) (ph := ph) hov1 (by omega) ((SlotS.pg s j : Nat) : Int)
  have hov2 := (PagerS.near_load p1 h1 ((SlotS.pg s j : Nat) : Int)).over hov1
  have hop2 := (PagerS.near_load p1 h1 ((SlotS.pg s j : Nat) : Int)).ops
  generalize (PagerS.loadP p1 h1 (SlotS.pg s j : Nat)).2.1 = p2 at *
  generalize (PagerS.loadP p1 h1 (SlotS.pg s j : Nat)).2.2 = h2 at *
  generalize (PagerS.loadP p1 h1 (SlotS.pg s j : Nat)).1.2 = er2 at *
  generalize (PagerS.loadP p1 h1 (SlotS.pg s j : Nat)).1.1 = B2 at *
  generalize SlotS.pg s i = pn at *
  generalize SlotS.pg s j = pm at *
  generalize SlotS.fr s i = f1 at *
  generalize SlotS.fr s j = f2 at *
  subst he he2
  refine fn_y Tryz.func32 Tryz.mixed ?_
  intro w0
  refine Y6 ?_
  refine Zhn 20 rfl (rfl) ?_
  refine Y5 ?_
  refine Zor (c := shas_x (q := q) (pp := pp) (s := s) (a := la) (c := lc) i) (k := ?_)
  rintro _ _ ⟨rfl, rfl⟩
  refine Y1 ?_
  refine Zos 23 rfl (hh1) ?_
  refine Zhg (Zb0 rfl) ?_
  refine Zhn 24 rfl (rfl) ?_
  refine Y3 ?_
  first|refine Y0 ?_|(refine Zhh rfl ?_; (refine Zor (c := shas_x (q := q) (pp := pp) (s := s) (a := la) (c := lc) j) (k := ?_)); (rintro _ _ ⟨rfl, rfl⟩); (refine Zg2 qA ?_))
  refine Zos 28 rfl (hh2) ?_
  first|refine Y0 ?_|(refine Zhh rfl ?_; (refine Zhg (Zb0 rfl) ?_))
  refine Zhn 29 rfl (rfl) ?_
  refine Y4 ?_
  first|refine Y0 ?_|(refine Zhh rfl ?_; (refine Zhg (Zbr (a := (i : Int)) (b := (j : Int)) rfl rfl) ?_))
  refine Zot 34 rfl (hijz) ?_
  refine Y7 ?_
  refine Zor (c := htc la lc) (k := ?_)
  rintro _ _ ⟨la2, lc2, rfl⟩
  refine Y5 ?_
  refine Zor (c := hpl1 la2 lc2) (k := ?_)
  rintro _ _ ⟨bf, bs, rfl, rfl⟩
  refine Y10 ?_
  refine Zor (c := hpl2 la2 lc2) (k := ?_)
  rintro _ _ ⟨bg, bt, rfl, rfl⟩
  refine Y13 ?_
  refine Zor (c := hld) (k := ?_)
  rintro _ _ ⟨ta, tc, rfl, rfl⟩
  refine V7 ?_
  refine Zgt (fun F w H => pgs_ok (pp := pp) (ph := ph) (p := p1) qH H) ?_
  intro hk1
  have hB := hll hk1
  refine Y3 ?_
  refine Zot 62 rfl ((fun hh => hh rfl)) ?_
  refine Y9 ?_
  refine Zhg (Zmk (a := pm) (b := pn) rfl rfl) ?_
  refine Zos 67 rfl (hpg) ?_
  refine Y8 ?_
  refine Zor (c := hld2) (k := ?_)
  rintro _ _ ⟨ua, uc, rfl, rfl⟩
  refine V7 ?_
  refine Zgt (fun F w H => pgs_ok (pp := pp) (ph := ph) (p := p2) qH H) ?_
  intro hk2
  have hB2 := hll2 rfl hk2
  refine Y3 ?_
  refine Zot 78 rfl ((fun hh => hh rfl)) ?_
  refine V2 ?_
  refine Zij ([cl q (slc pp s2 la2 lc2) 137]) [4, 8, 9, 10] (.q 0 (.q 1 (.q 2 (.q 5 (.q 6 (.q 7 (.r 3 (.r 8 (.alt (.e 4 true (.r 10 (.e 9 true (.q 11 .nil)))) (.e 9 true (.e 4 true (.r 10 (.q 11 .nil))))))))))))) (by kernel_rfl) (by kernel_rfl) (Imp.arr qV) ?_
  refine W8 ?_
  refine Zis ?altA1 ?altB1
  case' altA1 =>
    refine Ziq rfl ?_
    refine Zm3 (f := u8b) (a := 0#8) rfl rfl rfl qS qS qS ?_; intro b84
    refine Zg3 ⟨fun _ => Imp.arr qV, ?_⟩
    refine W1 ?_
    refine Ziq rfl ?_
    refine Zm3 (f := u8b) (a := 0#8) rfl rfl rfl qS qS qS ?_; intro b89
    refine Zg3 ⟨fun _ => Imp.arr qV, ?_⟩
    refine W2 ?_
  case' altB1 =>
    refine Ziq rfl ?_
    refine Zm3 (f := u8b) (a := 0#8) rfl rfl rfl qS qS qS ?_; intro b89
    refine Zg3 ⟨fun _ => Imp.arr qV, ?_⟩
    refine Ziq rfl ?_
    refine Zm3 (f := u8b) (a := 0#8) rfl rfl rfl qS qS qS ?_; intro b84
    refine Zg3 ⟨fun _ => Imp.arr qV, ?_⟩
    refine W3 ?_
  all_goals (refine Ct.o ?_)
  all_goals
    rw [e3]
    refine x_own (E := 5) (n := B.length) (a := ta) (cp := tc) qH (by omega) ?_
    intro g rest hg hc1 hc2 hr
    subst hg
    refine x_own (E := 5) (n := B2.length) (a := ua) (cp := uc) qH (by omega) ?_
    intro g2 rest2 hg2 hd1 hd2 hr2
    subst hg2
    have hA : (SlotS.part B f1 s.size).length = s.size := SlotS.part_len (by omega)
    have hA2 : (SlotS.part B2 f2 s.size).length = s.size := SlotS.part_len (by omega)
    obtain ⟨hx, hy⟩ := hc.len _ _ hA hA2
    have hcf := hc.con b84 b89 _ _ hA hA2
    refine Y4 ?_
    refine Zor (c := hpd la2 lc2 g B.length tc bf bs f1 (by omega) hc1 (by omega)) (k := ?_)
    rintro _ _ ⟨rfl, rfl⟩
    refine Y1 ?_
    refine Zib rfl rfl ((rd_part qH (by omega))) qR qZ (by first|rfl|exact oneM_u8 _|exact oneL_u8 _|exact acc_one _|exact acc_ones _|assumption|(simp [oneC]; done)) (copy_all hA) ?_
    refine Y5 ?_
    refine Zor (c := hpd la2 lc2 g2 B2.length uc bg bt f2 (by omega) hd1 (by omega)) (k := ?_)
    rintro _ _ ⟨rfl, rfl⟩
    refine Y1 ?_
    refine Zib rfl rfl ((rd_part qH (by omega))) qR qZ (by first|rfl|exact oneM_u8 _|exact oneL_u8 _|exact acc_one _|exact acc_ones _|assumption|(simp [oneC]; done)) (copy_all hA2) ?_
    refine Y5 ?_
    refine Zh8 rfl hc.callable hcf rfl qT ?_; rintro _ _ ⟨Z, hZ, rfl⟩; refine Zg2 qA ?_
    refine V1 ?_
    generalize hφ1 : (φ (SlotS.part B f1 s.size) (SlotS.part B2 f2 s.size)).1 = x1 at *
    generalize hφ2 : (φ (SlotS.part B f1 s.size) (SlotS.part B2 f2 s.size)).2 = x2 at *
    have hl1 : (SlotS.lay B f1 x1).length = B.length := SlotS.lay_len (by omega)
    have hl2 : (SlotS.lay B2 f2 x2).length = B2.length := SlotS.lay_len (by omega)
    have hsv := save_x (p := pp) (ph := ph) (s := p2) (h := h2) (L := [cl g ((SlotS.lay B f1 x1).map u8b ++ rest).toArray 5]) hov2 (by omega) (pn : Int) (lay_bs (n := B.length) (c := tc) .here hl1 hc1 hc2)
    have hov3 := (PagerS.near_save p2 h2 (pn : Int) (SlotS.lay B f1 x1)).over hov2
    have hop3 := (PagerS.near_save p2 h2 (pn : Int) (SlotS.lay B f1 x1)).ops
    refine Y3 ?_
    refine Zor (c := hpd la2 lc2 g B.length tc bf bs f1 (by omega) hc1 (by omega)) (k := ?_)
    rintro _ _ ⟨rfl, rfl⟩
    refine Y2 ?_
    refine Zib rfl rfl ((Bs.rd (bs_full (l := x1) (n := s.size) qH hx (by omega)))) qR qZ (by first|rfl|exact oneM_u8 _|exact oneL_u8 _|exact acc_one _|exact acc_ones _|assumption|(simp [oneC]; done)) (copy_lay (B := B) (f := f1) (rest := rest) hx (by omega)) ?_
    refine Y4 ?_
    refine Zor (c := hpd la2 lc2 g2 B2.length uc bg bt f2 (by omega) hd1 (by omega)) (k := ?_)
    rintro _ _ ⟨rfl, rfl⟩
    refine Y2 ?_
    refine Zib rfl rfl ((Bs.rd (bs_full (l := x2) (n := s.size) qH hy (by omega)))) qR qZ (by first|rfl|exact oneM_u8 _|exact oneL_u8 _|exact acc_one _|exact acc_ones _|assumption|(simp [oneC]; done)) (copy_lay (B := B2) (f := f2) (rest := rest2) hy (by omega)) ?_
    refine Y8 ?_
    refine Zor (c := hsv) (k := ?_)
    rintro _ _ ⟨rfl, rfl⟩
    refine V3 ?_
    have hfin : ∀ (p : PS) (h : HostS.HS), Imp (slL q pp s2 la2 lc2 ++ (pgA pp ph p :: hostA ph h :: blk b84 x1 :: blk b89 x2 :: Z)) (slA q pp s2 :: pgA pp ph p :: hostA ph h :: blk b84 x1 :: blk b89 x2 :: Z) := fun p h => slA_mk
    simp only [List.cons_append, List.nil_append] at hfin
    generalize hq1 : (PagerS.saveP p2 h2 (pn : Int) (SlotS.lay B f1 x1)).2.1 = p3 at *
    generalize hq2 : (PagerS.saveP p2 h2 (pn : Int) (SlotS.lay B f1 x1)).2.2 = h3 at *
    generalize hq3 : (PagerS.saveP p2 h2 (pn : Int) (SlotS.lay B f1 x1)).1 = e9 at *
    have hq : PagerS.saveP p2 h2 (pn : Int) (SlotS.lay B f1 x1) = (e9, p3, h3) := by rw [← hq1, ← hq2, ← hq3]
    by_cases hz : e9 = 0
    · have hsv2 := save_x (p := pp) (ph := ph) (s := p3) (h := h3) (L := [cl g2 ((SlotS.lay B2 f2 x2).map u8b ++ rest2).toArray 5]) hov3 (by omega) (pm : Int) (lay_bs (n := B2.length) (c := uc) .here hl2 hd1 hd2)
      refine Y3 ?_
      refine Zot 122 rfl ((fun hh => hh hz)) ?_
      refine Y3 ?_
      first|refine Y0 ?_|(refine Zhh rfl ?_; (refine Zhg (Zmj (a := pm) (b := pn) rfl rfl) ?_))
      refine Zot 126 rfl (hpg) ?_
      refine Y10 ?_
      refine Zor (c := hsv2) (k := ?_)
      rintro _ _ ⟨rfl, rfl⟩
      refine V3 ?_
      refine rx1 (Zg9 rfl (Zg7)) ?_
      refine ⟨_, ⟨_, _, _, rfl, rfl, rfl, by rw [hφ1, hφ2, hq]; dsimp only; rw [if_pos hz], b84, b89, Z, hZ, rfl⟩, ?_⟩
      rw [hφ1, hφ2, hq]
      dsimp only
      rw [if_pos hz]
      exact (Imp.arr qV).trans (hfin _ _)
    · refine Y3 ?_
      refine Zos 122 rfl (hz) ?_
      refine V11 ?_
      refine rx1 (Zg9 rfl (Zg7)) ?_
      refine ⟨_, ⟨_, _, _, rfl, rfl, rfl, by rw [hφ1, hφ2, hq]; dsimp only; rw [if_neg hz], b84, b89, Z, hZ, rfl⟩, ?_⟩
      rw [hφ1, hφ2, hq]
      dsimp only
      rw [if_neg hz]
      exact (Imp.arr qV).trans (hfin _ _)
end
end Go.Sl
namespace Go.Sl
open Go Go.Proofs
attribute [local irreducible] pt own old pur ex all den denOps denS xOps xC cX CX xthen xblk xcut xloop xng retX resX Calls PV Rd Con
attribute [local irreducible] hostA pgA PagerS.loadP PagerS.saveP
open SlotS (SL Acc Fit)
open PagerS (PS Over)
section
variable {q pp ph : Nat} {s : SL} {p : PS} {h : HostS.HS} {F : FuncId} {fi ca : Array Value} {X : List Asrt} {φ : List Byte → List Byte → List Byte × List Byte} {Y : List Byte → List Byte → Nat → Nat → List Asrt → Prop}
theorem pair_ok (f : Fit s p) (hk : PagerS.Ok p) (hov : Over p h) (hops : h.ops + 6 < 3518437208880) (hl : s.log.length ≤ 4000000000000) {i j : Nat} (hi : i < s.n) (hj : j < s.n) (hij : i ≠ j) (hc : FCon F fi ca s.size X φ Y) (he : (SlotS.pairL s p h i j).1.1 = 0) :
    Con Tryz.prog 32 [hp q, nvv i, nvv j, .func (.func F) fi ca] (slA q pp s :: pgA pp ph p :: hostA ph h :: X) (fun r M => ∃ A B E, A = SlotS.part (SlotS.pairL s p h i j).1.2.1 (SlotS.fr s i) s.size ∧ B = SlotS.part (SlotS.pairL s p h i j).1.2.2 (SlotS.fr s j) s.size ∧ E = SlotS.pairE s (SlotS.pairL s p h i j).2.1 (SlotS.pairL s p h i j).2.2 i j (SlotS.pairL s p h i j).1.2.1 (SlotS.pairL s p h i j).1.2.2 (φ A B).1 (φ A B).2 ∧ r = nvv E.1 ∧ ∃ a b Z, Y A B a b Z ∧ M = slA q pp (SlotS.touch s 2 i j) :: pgA pp ph E.2.1 :: hostA ph E.2.2 :: blk a (φ A B).1 :: blk b (φ A B).2 :: Z) := by
  have h1 : (PagerS.loadP p h (SlotS.pg s i : Nat)).1.2 = 0 := by
    unfold SlotS.pairL at he
    dsimp only at he
    split at he
    · assumption
    · rename_i hn; exact absurd he hn
  by_cases hpg : SlotS.pg s j = SlotS.pg s i
  · have e : SlotS.pairL s p h i j = ((0, (PagerS.loadP p h (SlotS.pg s i : Nat)).1.1, (PagerS.loadP p h (SlotS.pg s i : Nat)).1.1), (PagerS.loadP p h (SlotS.pg s i : Nat)).2) := by
      unfold SlotS.pairL
      dsimp only
      rw [if_pos h1, if_pos hpg]
    have hE : ∀ (p1 : PS) (h1 : HostS.HS) (tI tJ x y : List Byte), SlotS.pairE s p1 h1 i j tI tJ x y = PagerS.saveP p1 h1 ((SlotS.pg s i : Nat) : Int) (SlotS.lay (SlotS.lay tI (SlotS.fr s i) x) (SlotS.fr s j) y) := fun p1 h1 tI tJ x y => by unfold SlotS.pairE; rw [if_pos hpg]
    refine (pair_same f hk hov hops hl hi hj hij hc hpg h1).mono ?_
    rintro r M ⟨A, B, E, hA, hB, hEE, hr, a, b, Z, hY, hM⟩
    rw [e]
    refine ⟨M, Imp.refl _, A, B, E, hA, hB, ?_, hr, a, b, Z, hY, hM⟩
    rw [hE]; exact hEE
  · have h2 : (PagerS.loadP (PagerS.loadP p h (SlotS.pg s i : Nat)).2.1 (PagerS.loadP p h (SlotS.pg s i : Nat)).2.2 (SlotS.pg s j : Nat)).1.2 = 0 := by
      unfold SlotS.pairL at he
      dsimp only at he
      rw [if_pos h1, if_neg hpg] at he
      split at he
      · assumption
      · rename_i hn; exact absurd he hn
    have e : SlotS.pairL s p h i j = ((0, (PagerS.loadP p h (SlotS.pg s i : Nat)).1.1, (PagerS.loadP (PagerS.loadP p h (SlotS.pg s i : Nat)).2.1 (PagerS.loadP p h (SlotS.pg s i : Nat)).2.2 (SlotS.pg s j : Nat)).1.1), (PagerS.loadP (PagerS.loadP p h (SlotS.pg s i : Nat)).2.1 (PagerS.loadP p h (SlotS.pg s i : Nat)).2.2 (SlotS.pg s j : Nat)).2) := by
      unfold SlotS.pairL
      dsimp only
      rw [if_pos h1, if_neg hpg, if_pos h2]
    refine (pair_diff f hk hov hops hl hi hj hc hpg h1 h2).mono ?_
    rintro r M ⟨A, B, E, hA, hB, hEE, hr, a, b, Z, hY, hM⟩
    rw [e]
    exact ⟨M, Imp.refl _, A, B, E, hA, hB, hEE, hr, a, b, Z, hY, hM⟩
end
end Go.Sl
namespace Go.Sl
open Go Go.Proofs
attribute [local irreducible] pt own old pur ex all den denOps denS xOps xC cX CX xthen xblk xcut xloop xng retX resX Calls PV Rd Con
attribute [local irreducible] hostA pgA PagerS.loadP PagerS.saveP SlotS.getS SlotS.setS SlotS.pairL SlotS.pairE SlotS.ghost
open SlotS (SL Acc Fit QI slv)
open PagerS (PS Over)
abbrev Bk := Int → List Byte
def qsF (q pp ph : Nat) (s0 : SL) (tg : PS × HostS.HS) (rows : List (List Byte)) (log : List Acc) (t : PS × HostS.HS × Bk) : Asrt := all [pur (QI s0 tg rows log t.1 t.2.1 t.2.2), slA q pp (slv s0 log), pgA pp ph t.1, hostA ph t.2.1]
def qsA (q pp ph : Nat) (s0 : SL) (tg : PS × HostS.HS) (rows : List (List Byte)) (log : List Acc) : Asrt := ex (qsF q pp ph s0 tg rows log)
section
variable {q pp ph : Nat} {s0 : SL} {tg : PS × HostS.HS} {rows : List (List Byte)} {log : List Acc} {p : PS} {h : HostS.HS} {b : Bk} {L : List Asrt}
theorem qsA_mk (k : QI s0 tg rows log p h b) : Imp (slA q pp (slv s0 log) :: pgA pp ph p :: hostA ph h :: L) (qsA q pp ph s0 tg rows log :: L) :=
  (Imp.pur_mk k).trans ((Imp.app (L := [pur (QI s0 tg rows log p h b), slA q pp (slv s0 log), pgA pp ph p, hostA ph h]) (M := L)).trans (Imp.head fun f hf => by unfold qsA Sl.ex; exact Exists.intro (p := fun x => (qsF q pp ph s0 tg rows log x).on f) (p, h, b) hf))
theorem Con.qsA {F : FuncId} {args : List Value} {Φ : Value → List Asrt → Prop} (hc : ∀ p h b, QI s0 tg rows log p h b → Con Tryz.prog F args (Sl.slA q pp (slv s0 log) :: Sl.pgA pp ph p :: Sl.hostA ph h :: L) Φ) : Con Tryz.prog F args (Sl.qsA q pp ph s0 tg rows log :: L) Φ :=
  Con.ex fun t => Con.pre (Con.pur fun k => hc t.1 t.2.1 t.2.2 k) (Imp.unapp (L := [Sl.pur (QI s0 tg rows log t.1 t.2.1 t.2.2), Sl.slA q pp (slv s0 log), Sl.pgA pp ph t.1, Sl.hostA ph t.2.1]) (M := L))
theorem x_qsA {w0 : World} {cd : Code} {ρ : Env} {Q : XQ} (k : ∀ p h b, QI s0 tg rows log p h b → xC Tryz.prog w0 cd ρ (slA q pp (slv s0 log) :: pgA pp ph p :: hostA ph h :: L) Q) : xC Tryz.prog w0 cd ρ (qsA q pp ph s0 tg rows log :: L) Q := by
  unfold qsA
  exact Zgr fun t => Zgp (Imp.unapp (L := [pur (QI s0 tg rows log t.1 t.2.1 t.2.2), slA q pp (slv s0 log), pgA pp ph t.1, hostA ph t.2.1]) (M := L)) (Zgq fun hq => k t.1 t.2.1 t.2.2 hq)
theorem qs_get {w0 w : World} {F : Asrt} {M M' : List Asrt} (hm : Has M (qsA q pp ph s0 tg rows log) M') (H : St w0 w (F :: M)) : ∃ p h b, QI s0 tg rows log p h b := by
  have H := H.pick (.there hm)
  unfold qsA at H
  obtain ⟨t, H⟩ := H.ex_get
  exact ⟨t.1, t.2.1, t.2.2, St.pur_get (St.all_get H)⟩
theorem qlen_x : Con Tryz.prog 26 [hp q] [qsA q pp ph s0 tg rows log] (fun r M => r = nvv s0.n ∧ M = [qsA q pp ph s0 tg rows log]) :=
  Con.qsA (L := []) fun p h b k => by
    refine ((slen_x (q := q) (pp := pp) (s := slv s0 log)).frame (L := [pgA pp ph p, hostA ph h])).mono ?_
    rintro r M ⟨M', ⟨h1, h2⟩, h3⟩
    subst h2 h3
    exact ⟨_, qsA_mk (L := []) k, h1, rfl⟩
theorem qlog_x (hl : log.length ≤ 2000000) : Con Tryz.prog 28 [hp q] [qsA q pp ph s0 tg rows log] (fun r M => ∃ a c, r = .slice a log.length c ∧ M = [ownAcc a c log, qsA q pp ph s0 tg rows log]) :=
  Con.qsA (L := []) fun p h b k => by
    refine ((slog_x (q := q) (pp := pp) (s := slv s0 log) (by show log.length ≤ _; omega)).frame (L := [pgA pp ph p, hostA ph h])).mono ?_
    rintro r M ⟨M', ⟨a, c, h1, h2⟩, h3⟩
    subst h2 h3
    exact ⟨_, Imp.cons (qsA_mk (L := []) k), a, c, h1, rfl⟩
theorem qget_x (hl : log.length ≤ 2000000) {m : Nat} (hm : m < s0.n) : Con Tryz.prog 35 [hp q, nvv m] [qsA q pp ph s0 tg rows log] (fun r M => ∃ a c, r = .tuple #[.slice a (rows.getD m []).length c, nvv 0] ∧ M = [ownB a c (rows.getD m []), qsA q pp ph s0 tg rows (log ++ [(0, (m : Int), 0)])]) :=
  Con.qsA (L := []) fun p h b k => by
    obtain ⟨e1, e2, k2⟩ := k.get hl hm
    have hop := k.ops
    refine (sget_x (q := q) (pp := pp) (ph := ph) k.fit k.quiet.sound.ok k.quiet.sound.over (by omega) (by show log.length ≤ _; omega) (m : Int)).mono ?_
    rintro r M ⟨a, c, rfl, rfl⟩
    rw [e1, e2]
    exact ⟨_, Imp.cons (qsA_mk (L := []) k2), a, c, rfl, rfl⟩
theorem qset_x (hl : log.length ≤ 2000000) {m : Nat} (hm : m < s0.n) {vb : Value} {v : List Byte} (hv : v.length = s0.size) (hb : Bs L vb v) : Con Tryz.prog 31 [hp q, nvv m, vb] (qsA q pp ph s0 tg rows log :: L) (fun r M => r = nvv 0 ∧ M = qsA q pp ph s0 tg (rows.set m v) (log ++ [(1, (m : Int), 0)]) :: L) :=
  Con.qsA fun p h b k => by
    obtain ⟨e1, e2, k2⟩ := k.set hl hm hv
    have hop := k.ops
    refine (sset_x (q := q) (pp := pp) (ph := ph) k.fit k.quiet.sound.ok k.quiet.sound.over (by omega) (by show log.length ≤ _; omega) (m : Int) hb).mono ?_
    rintro r M ⟨rfl, rfl⟩
    rw [e1, e2]
    exact ⟨_, qsA_mk k2, rfl, rfl⟩
def pairR (φ : List Byte → List Byte → List Byte × List Byte) (rows : List (List Byte)) (m j : Nat) : List (List Byte) := (rows.set m (φ (rows.getD m []) (rows.getD j [])).1).set j (φ (rows.getD m []) (rows.getD j [])).2
theorem qpair_x {F : FuncId} {fi ca : Array Value} {φ : List Byte → List Byte → List Byte × List Byte} {Y : List Byte → List Byte → Nat → Nat → List Asrt → Prop} (hl : log.length ≤ 2000000) {m j : Nat} (hm : m < s0.n) (hj : j < s0.n) (hmj : m ≠ j) (hc : FCon F fi ca s0.size L φ Y) :
    Con Tryz.prog 32 [hp q, nvv m, nvv j, .func (.func F) fi ca] (qsA q pp ph s0 tg rows log :: L) (fun r M => r = nvv 0 ∧ ∃ a b Z, Y (rows.getD m []) (rows.getD j []) a b Z ∧ M = qsA q pp ph s0 tg (pairR φ rows m j) (log ++ [(2, (m : Int), (j : Int))]) :: blk a (φ (rows.getD m []) (rows.getD j [])).1 :: blk b (φ (rows.getD m []) (rows.getD j [])).2 :: Z) :=
  Con.qsA fun p h b k => by
    obtain ⟨hv, hw⟩ := hc.len _ _ (k.rlen hm) (k.rlen hj)
    obtain ⟨e1, e2, e3, e4, k2⟩ := k.pair hl hm hj hmj hv hw
    have hop := k.ops
    refine (pair_ok (q := q) (pp := pp) (ph := ph) k.fit k.quiet.sound.ok k.quiet.sound.over (by omega) (by show log.length ≤ _; omega) (i := m) (j := j) hm hj hmj hc e1).mono ?_
    rintro r M ⟨A, B, E, hA, hB, hE, hr, a, c, Z, hY, hM⟩
    have hA : A = rows.getD m [] := hA.trans e2
    have hB : B = rows.getD j [] := hB.trans e3
    subst hA hB hE hr hM
    exact ⟨_, qsA_mk (s0 := s0) (tg := tg) (rows := pairR φ rows m j) (log := log ++ [(2, (m : Int), (j : Int))]) k2, by rw [e4], a, c, Z, hY, rfl⟩
end
end Go.Sl
namespace Go.Sl
open Go Go.Proofs
attribute [local irreducible] pt own old pur ex all den denOps denS xOps xC cX CX xthen xblk xcut xloop xng retX resX Calls PV Rd Con
attribute [local irreducible] hostA pgA qsA PagerS.loadP PagerS.saveP withinN
open SlotS (SL Acc Fit QI slv)
open PagerS (PS Over)
def wso (x : SoWorldV) : Array Value := x.cells.toArray
section
variable {x : SoWorldV}
theorem wso_len (hk : x.key_.length = 32) : (wso x).size = 39 := by unfold wso; simp [SoWorldV.cells, hk]
theorem wso_size_ : (wso x)[0]? = some (.int .i64 x.size_) := by unfold wso; simp [SoWorldV.cells]
theorem wso_text_ : (wso x)[1]? = some (.int .i64 x.text_) := by unfold wso; simp [SoWorldV.cells]
theorem wso_window_ : (wso x)[2]? = some (.int .i64 x.window_) := by unfold wso; simp [SoWorldV.cells]
theorem wso_key_ (hk : x.key_.length = 32) : (wso x).extract 3 (3 + 32) = (x.key_.map u8b).toArray := by
  unfold wso
  apply Array.ext'
  simp [SoWorldV.cells, List.extract_eq_take_drop, List.drop_append, List.take_append, List.take_of_length_le, hk]
theorem wso_round_ (hk : x.key_.length = 32) : (wso x)[35]? = some (u64b x.round_) := by unfold wso; simp [SoWorldV.cells, List.getElem?_append, List.getElem?_cons, hk]
theorem wso_rows_ (hk : x.key_.length = 32) : (wso x)[37]? = some x.rows_V := by unfold wso; simp [SoWorldV.cells, List.getElem?_append, List.getElem?_cons, hk]
end
structure SoIn (x : SoWorldV) : Prop where
  key : x.key_.length = 32
  rows : ∃ a c, x.rows_V = .slice a x.rows_.length c
  size : Big x.size_
  text : Big x.text_
  window : Big x.window_
def oSz (x : SoWorldV) : Nat := 1 + withinN (IntKind.i64.wrap (x.size_ - 1)) 100
def oWn (x : SoWorldV) : Nat := 2 + withinN (IntKind.i64.wrap (x.window_ - 2)) 15
def oNn (x : SoWorldV) : Nat := min x.rows_.length 40
def oTx (x : SoWorldV) : Nat := oSz x + withinN x.text_ (401 - oSz x)
def oPg (x : SoWorldV) : Nat := SlotS.takeN (oNn x) (oTx x / oSz x)
structure ONum (x : SoWorldV) : Prop where
  sz : 1 ≤ oSz x ∧ oSz x ≤ 100
  wn : 2 ≤ oWn x ∧ oWn x ≤ 16
  n : oNn x ≤ 40
  tx : oSz x ≤ oTx x ∧ oTx x ≤ 400
  per : 1 ≤ oTx x / oSz x
  pg : oPg x ≤ 41
theorem takeN_le {n per : Nat} : SlotS.takeN n per ≤ n + 1 := by
  unfold SlotS.takeN
  have : n / per ≤ n := Nat.div_le_self _ _
  split <;> omega
theorem onum (x : SoWorldV) : ONum x := by
  have h1 := (within_is (IntKind.i64.wrap (x.size_ - 1)) (n := 100) (by omega)).1
  have h2 := (within_is (IntKind.i64.wrap (x.window_ - 2)) (n := 15) (by omega)).1
  have hs : 1 ≤ oSz x ∧ oSz x ≤ 100 := by unfold oSz; omega
  have h3 := (within_is x.text_ (n := 401 - oSz x) (by omega)).1
  have hn : oNn x ≤ 40 := by unfold oNn; omega
  have ht : oSz x ≤ oTx x ∧ oTx x ≤ 400 := by unfold oTx; omega
  refine ⟨hs, by unfold oWn; omega, hn, ht, Nat.div_pos ht.1 hs.1, ?_⟩
  have := takeN_le (n := oNn x) (per := oTx x / oSz x)
  unfold oPg
  omega
theorem oPages (x : SoWorldV) : SlotS.pagesS (oNn x) (oSz x) (oTx x) = (((oPg x : Nat) : Int), 0) := by
  have h := onum x
  have h1 := h.sz; have h2 := h.tx; have h3 := h.pg
  unfold SlotS.pagesS
  rw [if_neg (by omega), if_neg (by omega)]
  simp only [Int.toNat_natCast]
  have e : SlotS.takeN (oNn x) (oTx x / oSz x) = oPg x := rfl
  rw [e, if_neg (by omega)]
abbrev shV (x : SoWorldV) : Array Value := #[nvv (oSz x), nvv (oTx x), nvv (oWn x), nvv (oNn x), nvv (oPg x)]
theorem shape_x {x : SoWorldV} (hi : SoIn x) : Con Tryz.prog 42 [.agg (wso x)] [] (fun r M => r = .agg (shV x) ∧ M = []) := by
  obtain ⟨ra, rc, hrv⟩ := hi.rows
  have hk := hi.key
  have hlen := wso_len hk
  have hrows := wso_rows_ hk
  rw [hrv] at hrows
  have h := onum x
  have h1 := h.sz; have h2 := h.tx; have h3 := h.pg; have h4 := h.wn; have h5 := h.n
  have x1 := within_x (IntKind.i64.wrap (x.size_ - 1)) 100 (by omega) (by omega)
  have x2 := within_x (IntKind.i64.wrap (x.window_ - 2)) 15 (by omega) (by omega)
  have x3 := within_x x.text_ (401 - oSz x) (by omega) (by omega)
  have w1 := (within_is (IntKind.i64.wrap (x.size_ - 1)) (n := 100) (by omega)).1
  have w2 := (within_is (IntKind.i64.wrap (x.window_ - 2)) (n := 15) (by omega)).1
  have w3 := (within_is x.text_ (n := 401 - oSz x) (by omega)).1
  have e1 : 1 + withinN (IntKind.i64.wrap (x.size_ - 1)) 100 = oSz x := rfl
  have e2 : 2 + withinN (IntKind.i64.wrap (x.window_ - 2)) 15 = oWn x := rfl
  have e3 : oSz x + withinN x.text_ (401 - oSz x) = oTx x := rfl
  have e4 : (min (x.rows_.length : Int) 40) = ((oNn x : Nat) : Int) := by unfold oNn; omega
  have hpg := rsPages_x (oNn x) (oSz x) (oTx x) (by omega) (by omega) (by omega)
  rw [oPages] at hpg
  refine fn_y Tryz.func42 Tryz.mixed ?_
  intro w0
  refine Y1 ?_
  refine Zh5 rfl ?_; intro b1
  refine Zhz (cs := #[.int .i64 0, .int .i64 0, .int .i64 0, .int .i64 0, .int .i64 0]) rfl ?_; intro b2
  refine V1 ?_
  refine Zij ([cl b1 (wso x) 84]) [3, 4, 6, 7, 8, 9, 11, 12, 13, 15] (.q 0 (.q 5 (.q 10 (.r 1 (.q 2 (.r 6 (.r 7 (.r 11 (.r 12 (.r 13 (.e 3 true (.r 4 (.e 8 true (.r 9 (.q 14 (.a 15 (.e 16 false .nil))))))))))))))))) (by kernel_rfl) (by kernel_rfl) (Imp.arr qV) ?_
  refine W3 ?_
  refine Ziv rfl rfl qH (wso_size_) ?_
  refine Zim rfl (Zbe (a := x.size_) (b := 1) rfl rfl) ?_
  refine Ziv rfl rfl qH (wso_window_) ?_
  refine Ziz rfl (Zbe (a := x.window_) (b := 2) rfl rfl) ?_
  refine Ziv rfl rfl qH (hrows) ?_
  refine W2 ?_
  refine Ziq rfl ?_
  refine Zor (c := x1) (k := ?_)
  rintro _ _ ⟨rfl, rfl⟩
  refine Y1 ?_
  refine Zg3 ⟨fun _ => Imp.arr qV, ?_⟩
  refine Ziz rfl (Zma (a := 1) (b := withinN (IntKind.i64.wrap (x.size_ - 1)) 100) rfl rfl) ?_
  refine Ziq rfl ?_
  refine Zor (c := x2) (k := ?_)
  rintro _ _ ⟨rfl, rfl⟩
  refine Y1 ?_
  refine Zg3 ⟨fun _ => Imp.arr qV, ?_⟩
  refine Ziz rfl (Zma (a := 2) (b := withinN (IntKind.i64.wrap (x.window_ - 2)) 15) rfl rfl) ?_
  refine Zim rfl (Zdm (cs := #[.int .i64 _, .int .i64 0, .int .i64 _, .int .i64 _, .int .i64 0]) rfl) ?_
  refine Zir rfl (cs := #[.int .i64 0, .int .i64 0, .int .i64 0, .int .i64 0, .int .i64 0]) rfl ?_; intro b3
  refine Ziq rfl ?_
  first|refine Zhy rfl rfl qR qZ (by first|rfl|exact oneM_u8 _|exact oneL_u8 _|exact acc_one _|exact acc_ones _|assumption|(simp [oneC]; done)) qZ ?_|refine Zhx rfl rfl qR qZ (by first|rfl|exact oneM_u8 _|exact oneL_u8 _|exact acc_one _|exact acc_ones _|assumption|(simp [oneC]; done)) qZ rfl ?_
  refine Zg3 ⟨(fun hh => Bool.noConfusion hh), ?_⟩
  refine Zik ?_
  refine Ct.o ?_
  all_goals
    rw [e1, e2, e4]
    refine Ct.o ?_
    refine Zij ([cl b1 (wso x) 84, cl b3 #[nvv (oSz x), nvv 0, nvv (oWn x), nvv (oNn x), nvv 0] 86]) [3, 5, 6, 7] (.q 0 (.q 2 (.q 4 (.r 1 (.r 3 (.r 5 (.r 6 (.e 7 true (.q 8 (.q 9 (.e 10 false .nil))))))))))) (by kernel_rfl) (by kernel_rfl) (Imp.arr qV) ?_
    refine W4 ?_
    refine Ziv rfl rfl qH (wso_text_) ?_
    refine W1 ?_
    refine Ziz rfl (Zmb (a := 401) (b := oSz x) rfl rfl (by omega) (by omega)) ?_
    refine Ziq rfl ?_
    refine Zor (c := x3) (k := ?_)
    rintro _ _ ⟨rfl, rfl⟩
    refine Y1 ?_
    refine Zg3 ⟨fun _ => Imp.arr qV, ?_⟩
    refine Zim rfl (Zma (a := oSz x) (b := withinN x.text_ (401 - oSz x)) rfl rfl) ?_
    refine W1 ?_
    refine Ziq rfl ?_
    refine Y1 ?_
    refine Zg3 ⟨(fun hh => Bool.noConfusion hh), ?_⟩
    refine Zik ?_
    refine Ct.o ?_
    rw [e3]
    refine Y7 ?_
    refine Zor (c := hpg) (k := ?_)
    rintro _ _ ⟨rfl, rfl⟩
    refine Y9 ?_
    first|refine Zhy rfl rfl qR qZ (by first|rfl|exact oneM_u8 _|exact oneL_u8 _|exact acc_one _|exact acc_ones _|assumption|(simp [oneC]; done)) qZ ?_|refine Zhx rfl rfl qR qZ (by first|rfl|exact oneM_u8 _|exact oneL_u8 _|exact acc_one _|exact acc_ones _|assumption|(simp [oneC]; done)) qZ rfl ?_
    refine V1 ?_
    refine rx1 (Zhe rfl qH qZ (Zg7)) ?_
    exact ⟨_, ⟨rfl, rfl⟩, qI⟩
end Go.Sl
namespace Go.Sl.NetS
def gAt (k j i : Nat) : List (Nat × Nat) := if i / j % 2 = 1 then [] else [if i / k % 2 = 1 then (i + j, i) else (i, i + j)]
def gRow (n k j : Nat) : List (Nat × Nat) := (List.range n).flatMap (gAt k j)
def gStage (n k : Nat) : Nat → List (Nat × Nat)
  | 0 => gRow n k 1
  | q + 1 => gRow n k (2 ^ (q + 1)) ++ gStage n k q
def gTo (n : Nat) : Nat → List (Nat × Nat)
  | 0 => []
  | p + 1 => gTo n p ++ gStage n (2 ^ (p + 1)) p
def gates (m : Nat) : List (Nat × Nat) := gTo (2 ^ m) m
-- on bits
def gb (s : Nat → Bool) (g : Nat × Nat) : Nat → Bool := fun x => if x = g.1 then s g.1 && s g.2 else if x = g.2 then s g.1 || s g.2 else s x
def done (j m x : Nat) : Prop := (x / j % 2 = 1 ∧ x - j < m) ∨ (¬ x / j % 2 = 1 ∧ x < m)
theorem div_succ {j x : Nat} (hj : 0 < j) : (x + j) / j = x / j + 1 := Nat.add_div_right x hj
-- blocks
section half
variable {k j a : Nat} {d : Bool} {s : Nat → Bool}
end half
theorem pow_pos2 (q : Nat) : 0 < 2 ^ q := Nat.pow_pos (by omega)
theorem dvd_succ {q m : Nat} (h : 2 ^ (q + 1) ∣ m) : 2 ^ q ∣ m := Nat.dvd_trans ⟨2, Nat.pow_succ 2 q⟩ h
end Go.Sl.NetS
namespace Go.Sl.NetS
abbrev Row := List (BitVec 8)
def okG (n : Nat) (g : Nat × Nat) : Prop := g.1 < n ∧ g.2 < n ∧ g.1 ≠ g.2
section
variable {c : Row → Row → Bool} {l : List Row} {g : Nat × Nat} {n : Nat}
theorem getD_set {l : List Row} {i x : Nat} {a : Row} (hi : i < l.length) : (l.set i a).getD x [] = if x = i then a else l.getD x [] := by
  rw [List.getD_eq_getElem?_getD, List.getElem?_set, List.getD_eq_getElem?_getD]
  by_cases h : i = x
  · subst h; simp [hi]
  · rw [if_neg h, if_neg (Ne.symm h)]
end
section
variable {c : Row → Row → Bool} {n : Nat}
def bt (key : Row → Nat) (t : Nat) (l : List Row) : Nat → Bool := fun x => decide (t ≤ key (l.getD x []))
end
-- the gates' places
theorem gAt_ok {n k j i : Nat} (hj : 0 < j) (hn : 2 * j ∣ n) (hi : i < n) : ∀ g ∈ gAt k j i, okG n g := by
  intro g hg
  unfold gAt at hg
  split at hg
  · cases hg
  · rename_i h
    have hlt : i + j < n := by
      obtain ⟨e, rfl⟩ := hn
      have e1 : i / j < 2 * e := by
        apply Nat.div_lt_of_lt_mul
        rw [← Nat.mul_assoc, Nat.mul_comm j 2]; exact hi
      have e2 : i / j + 1 < 2 * e := by omega
      have e3 : (i + j) / j < 2 * e := by rw [div_succ hj]; exact e2
      have e4 := (Nat.div_lt_iff_lt_mul hj).1 e3
      have e5 : 2 * e * j = 2 * j * e := by rw [Nat.mul_assoc, Nat.mul_assoc, Nat.mul_comm e j]
      omega
    rw [List.mem_singleton] at hg
    subst hg
    split
    · exact ⟨hlt, hi, by simp only; omega⟩
    · exact ⟨hi, hlt, by simp only; omega⟩
theorem gRow_ok {n k j : Nat} (hj : 0 < j) (hn : 2 * j ∣ n) : ∀ g ∈ gRow n k j, okG n g := by
  intro g hg
  obtain ⟨i, hi, hg⟩ := List.mem_flatMap.1 hg
  exact gAt_ok hj hn (List.mem_range.1 hi) g hg
theorem gStage_ok {n k : Nat} : ∀ q, 2 ^ (q + 1) ∣ n → ∀ g ∈ gStage n k q, okG n g
  | 0, hn, g, hg => gRow_ok (j := 1) (by omega) hn g hg
  | q + 1, hn, g, hg => by
    rcases List.mem_append.1 hg with hg|hg
    · exact gRow_ok (pow_pos2 _) (by rw [Nat.mul_comm, ← Nat.pow_succ]; exact hn) g hg
    · exact gStage_ok q (dvd_succ hn) g hg
theorem gTo_ok {m : Nat} : ∀ p, p ≤ m → ∀ g ∈ gTo (2 ^ m) p, okG (2 ^ m) g
  | 0, _, g, hg => by cases hg
  | p + 1, hp, g, hg => by
    rcases List.mem_append.1 hg with hg|hg
    · exact gTo_ok p (by omega) g hg
    · exact gStage_ok p (Nat.pow_dvd_pow 2 hp) g hg
theorem gates_ok (m : Nat) : ∀ g ∈ gates m, okG (2 ^ m) g := gTo_ok m (Nat.le_refl _)
end Go.Sl.NetS
namespace Go.Sl.NetS
theorem and_pow (x q : Nat) : (x &&& 2 ^ q = 0) ↔ ¬ x / 2 ^ q % 2 = 1 := by
  have ht : x.testBit q = decide (x / 2 ^ q % 2 = 1) := Nat.testBit_eq_decide_div_mod_eq
  constructor
  · intro h hh
    have := congrArg (fun z => z.testBit q) h
    simp only [Nat.testBit_and, Nat.testBit_two_pow_self, Nat.zero_testBit, Bool.and_true] at this
    rw [ht, decide_eq_true hh] at this
    cases this
  · intro hh
    apply Nat.eq_of_testBit_eq
    intro j
    rw [Nat.testBit_and, Nat.zero_testBit, Nat.testBit_two_pow]
    by_cases e : q = j
    · subst e; rw [ht, decide_eq_false hh]; rfl
    · simp [e]
theorem or_pow {x q : Nat} (h : ¬ x / 2 ^ q % 2 = 1) : x ||| 2 ^ q = x + 2 ^ q := by
  have hq := pow_pos2 q
  have e1 := Nat.div_add_mod x (2 ^ q)
  have hr := Nat.mod_lt x hq
  obtain ⟨e, he⟩ : ∃ e, x / 2 ^ q = 2 * e := ⟨x / 2 ^ q / 2, by omega⟩
  rw [he] at e1
  generalize x % 2 ^ q = r at *
  subst e1
  have h1 : 2 ^ q * (2 * e) + r = 2 ^ q * (2 * e) ||| r := Nat.two_pow_add_eq_or_of_lt hr _
  have h2 : 2 ^ q * (2 * e + 1) + r = 2 ^ q * (2 * e + 1) ||| r := Nat.two_pow_add_eq_or_of_lt hr _
  have h3 : 2 ^ q * (2 * e + 1) = 2 ^ q * (2 * e) ||| 2 ^ q := by
    have a1 : ∀ z, 2 ^ q * z = z <<< q := fun z => by rw [Nat.shiftLeft_eq, Nat.mul_comm]
    have a2 : 2 ^ q = 1 <<< q := by rw [Nat.shiftLeft_eq, Nat.one_mul]
    have a3 : 2 * e + 1 = 2 * e ||| 1 := by
      have := Nat.two_pow_add_eq_or_of_lt (i := 1) (b := 1) (by omega) e
      simpa using this
    rw [a1, a1, a3, Nat.shiftLeft_or_distrib, ← a2]
  have h4 : 2 ^ q * (2 * e) + r + 2 ^ q = 2 ^ q * (2 * e + 1) + r := by rw [Nat.mul_add, Nat.mul_one]; omega
  rw [h4, h2, h1, h3, Nat.or_assoc, Nat.or_assoc, Nat.or_comm r]
def gPre (n k p : Nat) : Nat → List (Nat × Nat)
  | 0 => []
  | r + 1 => gPre n k p r ++ gRow n k (2 ^ (p - r))
theorem gStage_split (n k p : Nat) : ∀ r, r ≤ p → gStage n k p = gPre n k p r ++ gStage n k (p - r)
  | 0, _ => rfl
  | r + 1, h => by
    rw [gStage_split n k p r (by omega)]
    obtain ⟨d, hd⟩ : ∃ d, p - r = d + 1 := ⟨p - r - 1, by omega⟩
    have e : p - (r + 1) = d := by omega
    show gPre n k p r ++ gStage n k (p - r) = (gPre n k p r ++ gRow n k (2 ^ (p - r))) ++ gStage n k (p - (r + 1))
    rw [hd, e, List.append_assoc]
    rfl
theorem gPre_all (n k p : Nat) : gPre n k p (p + 1) = gStage n k p := by
  rw [gStage_split n k p p (Nat.le_refl _)]
  show gPre n k p p ++ gRow n k (2 ^ (p - p)) = _
  rw [Nat.sub_self]
  rfl
theorem gTo_pre {n p : Nat} : ∀ {m : Nat}, p ≤ m → gTo n p <+: gTo n m
  | 0, h => by
    obtain rfl : p = 0 := by omega
    exact List.prefix_refl _
  | m + 1, h => by
    by_cases e : p = m + 1
    · subst e; exact List.prefix_refl _
    · exact (gTo_pre (show p ≤ m by omega)).trans (List.prefix_append _ _)
def come (n p r i : Nat) : List (Nat × Nat) := gTo n p ++ (gPre n (2 ^ (p + 1)) p r ++ (List.range i).flatMap (gAt (2 ^ (p + 1)) (2 ^ (p - r))))
theorem come_pre {m p r i : Nat} (hp : p < m) (hr : r ≤ p) (hi : i ≤ 2 ^ m) : come (2 ^ m) p r i <+: gates m := by
  have h1 : gTo (2 ^ m) (p + 1) <+: gates m := gTo_pre (show p + 1 ≤ m by omega)
  refine List.IsPrefix.trans ?_ h1
  show _ <+: gTo (2 ^ m) p ++ gStage (2 ^ m) (2 ^ (p + 1)) p
  rw [gStage_split (2 ^ m) (2 ^ (p + 1)) p r hr]
  unfold come
  refine (List.prefix_append_right_inj _).2 ((List.prefix_append_right_inj _).2 ?_)
  have hrow : (List.range i).flatMap (gAt (2 ^ (p + 1)) (2 ^ (p - r))) <+: gRow (2 ^ m) (2 ^ (p + 1)) (2 ^ (p - r)) := by
    unfold gRow
    obtain ⟨d, hd⟩ : ∃ d, 2 ^ m = i + d := ⟨2 ^ m - i, by omega⟩
    rw [hd, List.range_add, List.flatMap_append]
    exact List.prefix_append _ _
  refine hrow.trans ?_
  cases hpr : p - r with
  | zero => exact List.prefix_refl _
  | succ d => exact List.prefix_append _ _
theorem come_succ (n p r i : Nat) : come n p r (i + 1) = come n p r i ++ gAt (2 ^ (p + 1)) (2 ^ (p - r)) i := by
  unfold come
  rw [List.range_succ, List.flatMap_append, List.append_assoc, List.append_assoc]
  simp
theorem come_row (n p r : Nat) : come n p r n = gTo n p ++ gPre n (2 ^ (p + 1)) p (r + 1) := rfl
theorem come_0 (n p r : Nat) : come n p r 0 = gTo n p ++ gPre n (2 ^ (p + 1)) p r := by unfold come; simp
theorem come_stage (n p : Nat) : gTo n p ++ gPre n (2 ^ (p + 1)) p (p + 1) = gTo n (p + 1) := by rw [gPre_all]; rfl
theorem pre_at {α : Type} {l : List α} {d : List α} {x : α} (h : d ++ [x] <+: l) : ∃ hk : d.length < l.length, l[d.length] = x := by
  obtain ⟨t, rfl⟩ := h
  exact ⟨by simp, by simp⟩
end Go.Sl.NetS
