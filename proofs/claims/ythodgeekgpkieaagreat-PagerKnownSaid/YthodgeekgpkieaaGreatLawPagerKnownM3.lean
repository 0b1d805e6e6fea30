/- Parts of the proof, joined: PgrB, PgrC, TagB, TagC, TagD, SealA, SealB, SealC, PgD, PgrD, PgrE, RpB, TagP, RfeS, RfeA, RefD, RefB, RefPa, RfeB, RfeC, RfeD, RefF, RefG, RefH, RefI, RefJ, RefK. -/
import Derived.Test.YthodgeekgpkieaaGreatLawPagerKnownM0
import Derived.Test.YthodgeekgpkieaaGreatLawPagerKnownM1
import Derived.Test.YthodgeekgpkieaaGreatLawPagerKnownM2
/- pager: a pager's cells; its small methods, walked. -/
set_option maxHeartbeats 4000000
set_option maxRecDepth 10000
set_option linter.unusedVariables false
set_option linter.unusedSimpArgs false
namespace Go.Sl
open Go Go.Proofs
attribute [local irreducible] pt pur ex all den denOps denS xOps xC cX CX xthen xblk xcut xloop xng retX resX Calls PV Rd Con
attribute [local irreducible] hostA
open PagerS (PS)
abbrev stV (ph : Nat) : Value := .iface 28 (hp ph)
structure PC where
  ph : Nat
  bh : Nat
  oa : Option Addr
  n : Nat
  oc : Nat
  bl : Nat
abbrev phead (s : PS) (c : PC) : List Value := stV c.ph :: s.key.map u8b
abbrev ptail (s : PS) (c : PC) : List Value := [u64b s.round, nvv s.window, .int .i64 s.pages, nvv s.text, .map (some c.bh), .slice c.oa c.n c.oc, .map (some c.bl), nvv s.most, u32b (BitVec.ofNat 32 s.writes), nvv s.err]
def pcl (s : PS) (c : PC) : Array Value := (phead s c ++ ptail s c).toArray
section
variable {s s' : PS} {c c' : PC} {k : Nat} {v : Value}
theorem pg_f (hk : s.key.length = 32) (h : (ptail s c)[k]? = some v) : (pcl s c)[33 + k]? = some v := by
  unfold pcl
  rw [List.getElem?_toArray, List.getElem?_append_right (by simp [hk]), show 33 + k - (phead s c).length = k by simp [hk]]
  exact h
theorem pg_s (hk : s.key.length = 32) (h : (ptail s c).set k v = ptail s' c') (h2 : s'.key = s.key) (h3 : c'.ph = c.ph) : (pcl s c).setIfInBounds (33 + k) v = pcl s' c' := by
  unfold pcl
  apply Array.ext'
  rw [Array.toList_setIfInBounds]
  show (phead s c ++ ptail s c).set (33 + k) v = phead s' c' ++ ptail s' c'
  rw [List.set_append_right _ _ (by simp [hk]), show 33 + k - (phead s c).length = k by simp [hk], h, show phead s' c' = phead s c from by unfold phead; rw [h2, h3]]
theorem pg_size (hk : s.key.length = 32) : (pcl s c).size = 43 := by unfold pcl; simp [hk]
theorem pg_st : (pcl s c)[0]? = some (stV c.ph) := by unfold pcl; simp
theorem pg_key (hk : s.key.length = 32) : (pcl s c).extract 1 (1 + 32) = (s.key.map u8b).toArray := by
  unfold pcl
  apply Array.ext'
  rw [Array.toList_extract, List.extract_eq_take_drop]
  show ((phead s c ++ ptail s c).drop 1).take (1 + 32 - 1) = _
  rw [List.cons_append, List.drop_one, List.tail_cons, List.take_append_of_le_length (by simp [hk]), List.take_of_length_le (by simp [hk])]
end
section
variable {p : Nat} {s : PS} {c : PC}
theorem pPages_x (hk : s.key.length = 32) : Con Tryz.prog 51 [hp p] [cl p (pcl s c) 102] (fun r M => r = .int .i64 s.pages ∧ M = [cl p (pcl s c) 102]) := by
  refine fn_x Tryz.func51 rfl rfl rfl Tryz.mixed (by kernel_rfl) ?_
  intro w0
  refine Y6 ?_
  refine Zhn 4 rfl (rfl) ?_
  refine Y6 ?_
  refine Zhp rfl qH (pg_f hk (k := 2) rfl) ?_
  refine V2 ?_
  refine rx1 (Zg9 rfl (Zg7)) ?_
  exact ⟨_, ⟨rfl, rfl⟩, qI⟩
theorem pText_x (hk : s.key.length = 32) : Con Tryz.prog 52 [hp p] [cl p (pcl s c) 102] (fun r M => r = nvv s.text ∧ M = [cl p (pcl s c) 102]) := by
  refine fn_x Tryz.func52 rfl rfl rfl Tryz.mixed (by kernel_rfl) ?_
  intro w0
  refine Y6 ?_
  refine Zhn 4 rfl (rfl) ?_
  refine Y6 ?_
  refine Zhp rfl qH (pg_f hk (k := 3) rfl) ?_
  refine V2 ?_
  refine rx1 (Zg9 rfl (Zg7)) ?_
  exact ⟨_, ⟨rfl, rfl⟩, qI⟩
theorem pMost_x (hk : s.key.length = 32) : Con Tryz.prog 17 [hp p] [cl p (pcl s c) 102] (fun r M => r = nvv s.most ∧ M = [cl p (pcl s c) 102]) := by
  refine fn_x Tryz.func17 rfl rfl rfl Tryz.mixed (by kernel_rfl) ?_
  intro w0
  refine Y6 ?_
  refine Zhn 4 rfl (rfl) ?_
  refine Y6 ?_
  refine Zhp rfl qH (pg_f hk (k := 7) rfl) ?_
  refine V2 ?_
  refine rx1 (Zg9 rfl (Zg7)) ?_
  exact ⟨_, ⟨rfl, rfl⟩, qI⟩
theorem pWrites_x (hk : s.key.length = 32) : Con Tryz.prog 21 [hp p] [cl p (pcl s c) 102] (fun r M => r = u32b (BitVec.ofNat 32 s.writes) ∧ M = [cl p (pcl s c) 102]) := by
  refine fn_x Tryz.func21 rfl rfl rfl Tryz.mixed (by kernel_rfl) ?_
  intro w0
  refine Y6 ?_
  refine Zhn 4 rfl (rfl) ?_
  refine Y6 ?_
  refine Zhp rfl qH (pg_f hk (k := 8) rfl) ?_
  refine V2 ?_
  refine rx1 (Zg9 rfl (Zg7)) ?_
  exact ⟨_, ⟨rfl, rfl⟩, qI⟩
theorem pErr_x (hk : s.key.length = 32) : Con Tryz.prog 18 [hp p] [cl p (pcl s c) 102] (fun r M => r = nvv s.err ∧ M = [cl p (pcl s c) 102]) := by
  refine fn_x Tryz.func18 rfl rfl rfl Tryz.mixed (by kernel_rfl) ?_
  intro w0
  refine Y6 ?_
  refine Zhn 4 rfl (rfl) ?_
  refine Y6 ?_
  refine Zhp rfl qH (pg_f hk (k := 9) rfl) ?_
  refine V2 ?_
  refine rx1 (Zg9 rfl (Zg7)) ?_
  exact ⟨_, ⟨rfl, rfl⟩, qI⟩
theorem die_x (hk : s.key.length = 32) (e : Nat) : Con Tryz.prog 58 [hp p, nvv e] [cl p (pcl s c) 102] (fun r M => r = nvv e ∧ M = [cl p (pcl (PagerS.die s e) c) 102]) := by
  have hsz := pg_size (c := c) hk
  refine fn_x Tryz.func58 rfl rfl rfl Tryz.mixed (by kernel_rfl) ?_
  intro w0
  refine Y8 ?_
  refine Zht rfl rfl qR qZ (pg_s (s' := PagerS.die s e) (c' := c) hk (k := 9) rfl rfl rfl) ?_
  refine V5 ?_
  refine rx1 (Zg9 rfl (Zg7)) ?_
  exact ⟨_, ⟨rfl, rfl⟩, qI⟩
theorem right_x (hk : s.key.length = 32) (n : Int) : Con Tryz.prog 53 [hp p, .int .i64 n] [cl p (pcl s c) 102] (fun r M => r = nvv (PagerS.rightP s n) ∧ M = [cl p (pcl s c) 102]) := by
  unfold PagerS.rightP
  by_cases he : s.err = 0
  · rw [if_neg (fun h => h he)]
    by_cases h0 : n < 0
    · rw [if_pos (.inl h0)]
      refine fn_x Tryz.func53 rfl rfl rfl Tryz.mixed (by kernel_rfl) ?_
      intro w0
      refine Y6 ?_
      refine Zhn 6 rfl (rfl) ?_
      refine Y6 ?_
      refine Zhp rfl qH (pg_f hk (k := 9) rfl) ?_
      refine Y1 ?_
      refine Zhn 11 rfl (decide_eq_false ((fun h => h he))) ?_
      refine Y4 ?_
      refine Zhg (Zbn (b := 0) rfl rfl) ?_
      refine Zhm 17 rfl (decide_eq_true (h0)) ?_
      refine V13 ?_
      refine rx1 (Zg9 rfl (Zg7)) ?_
      exact ⟨_, ⟨rfl, rfl⟩, qI⟩
    · by_cases h1 : s.pages ≤ n
      · rw [if_pos (.inr h1)]
        refine fn_x Tryz.func53 rfl rfl rfl Tryz.mixed (by kernel_rfl) ?_
        intro w0
        refine Y6 ?_
        refine Zhn 6 rfl (rfl) ?_
        refine Y6 ?_
        refine Zhp rfl qH (pg_f hk (k := 9) rfl) ?_
        refine Y1 ?_
        refine Zhn 11 rfl (decide_eq_false ((fun h => h he))) ?_
        refine Y4 ?_
        refine Zhg (Zbn (b := 0) rfl rfl) ?_
        refine Zhn 17 rfl (decide_eq_false (h0)) ?_
        refine Y5 ?_
        first|refine Y0 ?_|(refine Zhh rfl ?_; (refine Zhp rfl qH (pg_f hk (k := 2) rfl) ?_))
        refine Y1 ?_
        refine Zhm 24 rfl (decide_eq_true (h1)) ?_
        refine V6 ?_
        refine rx1 (Zg9 rfl (Zg7)) ?_
        exact ⟨_, ⟨rfl, rfl⟩, qI⟩
      · rw [if_neg (fun h => h.elim h0 h1)]
        refine fn_x Tryz.func53 rfl rfl rfl Tryz.mixed (by kernel_rfl) ?_
        intro w0
        refine Y6 ?_
        refine Zhn 6 rfl (rfl) ?_
        refine Y6 ?_
        refine Zhp rfl qH (pg_f hk (k := 9) rfl) ?_
        refine Y1 ?_
        refine Zhn 11 rfl (decide_eq_false ((fun h => h he))) ?_
        refine Y4 ?_
        refine Zhg (Zbn (b := 0) rfl rfl) ?_
        refine Zhn 17 rfl (decide_eq_false (h0)) ?_
        refine Y5 ?_
        first|refine Y0 ?_|(refine Zhh rfl ?_; (refine Zhp rfl qH (pg_f hk (k := 2) rfl) ?_))
        refine Y1 ?_
        refine Zhn 24 rfl (decide_eq_false (h1)) ?_
        refine V6 ?_
        refine rx1 (Zg9 rfl (Zg7)) ?_
        exact ⟨_, ⟨rfl, rfl⟩, qI⟩
  · rw [if_pos he]
    refine fn_x Tryz.func53 rfl rfl rfl Tryz.mixed (by kernel_rfl) ?_
    intro w0
    refine Y6 ?_
    refine Zhn 6 rfl (rfl) ?_
    refine Y6 ?_
    refine Zhp rfl qH (pg_f hk (k := 9) rfl) ?_
    refine Y1 ?_
    refine Zhm 11 rfl (decide_eq_true (he)) ?_
    refine Y6 ?_
    refine Zhp rfl qH (pg_f hk (k := 9) rfl) ?_
    refine V2 ?_
    refine rx1 (Zg9 rfl (Zg7)) ?_
    exact ⟨_, ⟨rfl, rfl⟩, qI⟩
end
end Go.Sl

/- pager: what a pager holds, as pieces; use, walked. -/
set_option maxHeartbeats 4000000
set_option maxRecDepth 10000
set_option linter.unusedVariables false
set_option linter.unusedSimpArgs false
namespace Go.Sl
open Go Go.Proofs
attribute [local irreducible] pt pur ex all den denOps denS xOps xC cX CX xthen xblk xcut xloop xng retX resX Calls PV Rd Con
attribute [local irreducible] hostA pcl
open PagerS (PS)
abbrev FV := PagerS.Fr × Nat × Option Addr × Nat
/-- A held page's frame. -/
def frA (e : FV) : Asrt := all [cl e.2.1 #[.slice e.2.2.1 e.1.text.length e.2.2.2, nvv e.1.is] 106, ownB e.2.2.1 e.2.2.2 e.1.text]
def heldF (l : List FV) : Int → Option Value := fun n => (l.find? fun e => e.1.page == n).map fun e => hp e.2.1
def lastF (last : Int → Option Plc) : Int → Option Value := fun n => (last n).map fun q => .agg (plc q)
abbrev fpages (l : List FV) : List Int := l.map fun e => e.1.page
theorem filter_at {zs : List Int} {n : Int} {i : Nat} (hi : i < zs.length) (h : zs[i] = n) (hn : zs.Nodup) : zs.take i ++ zs.drop (i + 1) = zs.filter fun z => !(z == n) := by
  have e : zs = zs.take i ++ (n :: zs.drop (i + 1)) := by rw [← h, ← List.drop_eq_getElem_cons hi, List.take_append_drop]
  have hn2 := hn
  rw [e, List.nodup_append] at hn2
  obtain ⟨_, h2, h3⟩ := hn2
  rw [List.nodup_cons] at h2
  conv => rhs; rw [e]
  rw [List.filter_append, List.filter_cons_of_neg (by simp)]
  have f1 : (zs.take i).filter (fun z => !(z == n)) = zs.take i := List.filter_eq_self.2 fun z hz => by
    have := h3 z hz n (List.mem_cons_self ..)
    simpa using this
  have f2 : (zs.drop (i + 1)).filter (fun z => !(z == n)) = zs.drop (i + 1) := List.filter_eq_self.2 fun z hz => by
    simp only [Bool.not_eq_true', beq_eq_false_iff_ne, ne_eq]
    rintro rfl
    exact h2.1 hz
  rw [f1, f2]
theorem filter_no {zs : List Int} {n : Int} (h : n ∉ zs) : zs.filter (fun z => !(z == n)) = zs := List.filter_eq_self.2 fun z hz => by
  simp only [Bool.not_eq_true', beq_eq_false_iff_ne, ne_eq]
  rintro rfl
  exact h hz
def used (zs : List Int) (n : Int) : List Int := (zs.filter fun z => !(z == n)) ++ [n]
section
variable {p : Nat} {s : PS} {c : PC}
theorem use_x (hk : s.key.length = 32) {zs : List Int} (hz : zs.length ≤ 16) (hn : zs.Nodup) {F : Int → Option Value} (n : Int) (fb : Nat) (hmost : s.most ≤ 16) (hcn : c.n = zs.length) :
    Con Tryz.prog 55 [hp p, .int .i64 n, hp fb] [cl p (pcl s c) 102, fmA c.bh F, ownI c.oa c.oc zs] (fun r M => ∃ oa' oc', M = [cl p (pcl { s with most := max s.most (used zs n).length } { c with oa := oa', n := (used zs n).length, oc := oc' }) 102, fmA c.bh (fput F n (some (hp fb))), ownI oa' oc' (used zs n)]) := by
  obtain ⟨ph, bh, oa, cn, oc, bl⟩ := c
  dsimp only at hcn ⊢
  subst hcn
  by_cases hin : n ∈ zs
  · refine Con.get (fun w0 w F H => own_someN (n := zs.length) (a := oa) (.there (.there .here)) (List.length_pos_of_mem hin) H) ?_
    rintro ⟨g, rfl⟩
    refine fn_x Tryz.func55 rfl rfl rfl Tryz.mixed (by kernel_rfl) ?_
    intro w0
    refine Y4 ?_
    refine Zhp rfl qH (pg_f hk (k := 4) rfl) ?_
    refine Y2 ?_
    refine Zof rfl rfl rfl qR ?_
    refine Y5 ?_
    refine Zhp rfl qH (pg_f hk (k := 5) rfl) ?_
    refine Y1 ?_
    refine Zh8 rfl (by kernel_rfl) (index_yes (L := [ownI (some ⟨g, 0, none⟩) oc zs]) (Rd.own .here) (by omega) hin) rfl qT ?_
    rintro _ _ ⟨⟨i, hi, hzi, rfl⟩, rfl⟩
    refine V3 ?_
    have hs1 := pg_size (s := s) (c := ⟨ph, bh, some ⟨g, 0, none⟩, zs.length, oc, bl⟩) hk
    have hs2 := pg_size (s := s) (c := ⟨ph, bh, some ⟨g, 0, none⟩, zs.length - 1, oc, bl⟩) hk
    refine Y3 ?_
    refine Zhm 20 rfl (decide_eq_true (Nat.zero_le i)) ?_
    refine Y7 ?_
    refine Zhp rfl qH (pg_f hk (k := 5) rfl) ?_
    refine Y3 ?_
    refine Zh8 rfl (by kernel_rfl) (delete_x hi (by omega)) rfl qT ?_
    rintro _ _ ⟨rfl, rfl⟩
    refine Y3 ?_
    refine Zhw rfl rfl qR qZ (pg_s (s := s) (c := ⟨ph, bh, some ⟨g, 0, none⟩, zs.length, oc, bl⟩) (s' := s) (c' := ⟨ph, bh, some ⟨g, 0, none⟩, zs.length - 1, oc, bl⟩) hk (k := 5) rfl rfl rfl) ?_
    refine V1 ?_
    rw [filter_at hi hzi hn]
    have hfl : (zs.filter fun z => !(z == n)).length = zs.length - 1 := by rw [← filter_at hi hzi hn]; simp; omega
    have ez : zv (used zs n) = zv (zs.filter fun z => !(z == n)) ++ [.int .i64 n] := by unfold used; simp
    have hul : (used zs n).length = zs.length - 1 + 1 := by unfold used; rw [List.length_append, hfl]; rfl
    refine Y5 ?_
    refine Zhp rfl qH (pg_f hk (k := 5) rfl) ?_
    refine Y1 ?_
    refine Zh7 (cs := #[.int .i64 _]) (by omega) (by omega) rfl ?_; intro b38
    refine Zia rfl rfl qH (Rd.cl (xs := [.int .i64 n]) qH rfl qZ rfl) qN (by omega) qS ?_; intro a3 c3
    refine Y2 ?_
    refine Zhw rfl rfl qR qZ (pg_s (s := s) (c := ⟨ph, bh, some ⟨g, 0, none⟩, zs.length - 1, oc, bl⟩) (s' := s) (c' := ⟨ph, bh, a3, zs.length - 1 + 1, c3, bl⟩) hk (k := 5) rfl rfl rfl) ?_
    refine V1 ?_
    rw [← hul, ← ez]
    have hs3 := pg_size (s := s) (c := ⟨ph, bh, a3, (used zs n).length, c3, bl⟩) hk
    have hmx : ((max s.most (used zs n).length : Nat) : Int) = max (s.most : Int) ((used zs n).length : Int) := by omega
    refine Ct.o ?_
    refine Zij ([cl p (pcl s ⟨ph, bh, a3, (used zs n).length, c3, bl⟩) 102]) [8, 9] (.q 0 (.q 1 (.q 2 (.q 3 (.q 5 (.q 6 (.q 7 (.r 4 (.r 8 (.r 9 (.q 10 (.q 11 (.q 12 (.e 13 false .nil)))))))))))))) (by kernel_rfl) (by kernel_rfl) (Imp.arr qV) ?_
    refine W7 ?_
    refine Ziv rfl rfl qH (pg_f hk (k := 7) rfl) ?_
    refine Ziv rfl rfl qH (pg_f hk (k := 5) rfl) ?_
    refine W4 ?_
    refine Ziq rfl ?_
    refine Zht rfl rfl qR qZ (pg_s (s := s) (c := ⟨ph, bh, a3, (used zs n).length, c3, bl⟩) (s' := { s with most := max s.most (used zs n).length }) (c' := ⟨ph, bh, a3, (used zs n).length, c3, bl⟩) hk (k := 7) (by rw [← hmx]; rfl) rfl rfl) ?_
    refine Zg3 ⟨(fun hh => Bool.noConfusion hh), ?_⟩
    refine Zik ?_
    refine Ct.o ?_
    first|refine rx0 ?_|refine rx0n ?_
    exact ⟨_, ⟨a3, c3, rfl⟩, qI⟩
  · refine fn_x Tryz.func55 rfl rfl rfl Tryz.mixed (by kernel_rfl) ?_
    intro w0
    refine Y4 ?_
    refine Zhp rfl qH (pg_f hk (k := 4) rfl) ?_
    refine Y2 ?_
    refine Zof rfl rfl rfl qR ?_
    refine Y5 ?_
    refine Zhp rfl qH (pg_f hk (k := 5) rfl) ?_
    refine Y1 ?_
    refine Zh8 rfl (by kernel_rfl) (index_no (L := [ownI oa oc zs]) (Rd.own .here) (by omega) hin) rfl qT ?_
    rintro _ _ ⟨rfl, rfl⟩
    refine Y5 ?_
    refine Zhg (Zbq (a := -1) (b := 0) rfl rfl) ?_
    refine Zhn 20 rfl (decide_eq_false ((by omega))) ?_
    refine V2 ?_
    have hfl := filter_no hin
    have ez : zv (used zs n) = zv zs ++ [.int .i64 n] := by unfold used; rw [hfl]; simp
    have hs1 := pg_size (s := s) (c := ⟨ph, bh, oa, zs.length, oc, bl⟩) hk
    have hul : (used zs n).length = zs.length + 1 := by unfold used; rw [List.length_append, hfl]; rfl
    refine Y5 ?_
    refine Zhp rfl qH (pg_f hk (k := 5) rfl) ?_
    refine Y1 ?_
    refine Zh7 (cs := #[.int .i64 _]) (by omega) (by omega) rfl ?_; intro b38
    refine Zia rfl rfl qH (Rd.cl (xs := [.int .i64 n]) qH rfl qZ rfl) qN (by omega) qS ?_; intro a3 c3
    refine Y2 ?_
    refine Zhw rfl rfl qR qZ (pg_s (s := s) (c := ⟨ph, bh, oa, zs.length, oc, bl⟩) (s' := s) (c' := ⟨ph, bh, a3, zs.length + 1, c3, bl⟩) hk (k := 5) rfl rfl rfl) ?_
    refine V1 ?_
    rw [← hul, ← ez]
    have hs3 := pg_size (s := s) (c := ⟨ph, bh, a3, (used zs n).length, c3, bl⟩) hk
    have hmx : ((max s.most (used zs n).length : Nat) : Int) = max (s.most : Int) ((used zs n).length : Int) := by omega
    refine Ct.o ?_
    refine Zij ([cl p (pcl s ⟨ph, bh, a3, (used zs n).length, c3, bl⟩) 102]) [8, 9] (.q 0 (.q 1 (.q 2 (.q 3 (.q 5 (.q 6 (.q 7 (.r 4 (.r 8 (.r 9 (.q 10 (.q 11 (.q 12 (.e 13 false .nil)))))))))))))) (by kernel_rfl) (by kernel_rfl) (Imp.arr qV) ?_
    refine W7 ?_
    refine Ziv rfl rfl qH (pg_f hk (k := 7) rfl) ?_
    refine Ziv rfl rfl qH (pg_f hk (k := 5) rfl) ?_
    refine W4 ?_
    refine Ziq rfl ?_
    refine Zht rfl rfl qR qZ (pg_s (s := s) (c := ⟨ph, bh, a3, (used zs n).length, c3, bl⟩) (s' := { s with most := max s.most (used zs n).length }) (c' := ⟨ph, bh, a3, (used zs n).length, c3, bl⟩) hk (k := 7) (by rw [← hmx]; rfl) rfl rfl) ?_
    refine Zg3 ⟨(fun hh => Bool.noConfusion hh), ?_⟩
    refine Zik ?_
    refine Ct.o ?_
    first|refine rx0 ?_|refine rx0n ?_
    exact ⟨_, ⟨a3, c3, rfl⟩, qI⟩
end
end Go.Sl

/- tag: New, take, Write, walked. -/
set_option maxHeartbeats 4000000
set_option maxRecDepth 10000
set_option linter.unusedVariables false
set_option linter.unusedSimpArgs false
namespace Go.Sl
open Go Go.Proofs
attribute [local irreducible] pt pur ex all den denOps denS xOps xC cX CX xthen xblk xcut xloop xng retX resX Calls PV Rd Con
theorem new_c (key : List Byte) (hk : key.length = 32) : Con Tryz.prog 141 [.agg (key.map u8b).toArray] [] (fun v M => ∃ p, v = .pointer (some ⟨p, 0, none⟩) ∧ M = [cl p (pc (newS key)) 235]) := by
  refine fn_x Tryz.func141 rfl rfl rfl Tryz.mixed (by kernel_rfl) ?_
  intro w0
  refine Y1 ?_
  refine Zh5 rfl ?_; intro b1
  refine Y3 ?_
  refine Zhg (Zdm (cs := #[u64b 0#64, u64b 0#64, u64b 0#64, u64b 0#64, u64b 0#64, u64b 0#64, u64b 0#64, u8b 0#8, u8b 0#8, u8b 0#8, u8b 0#8, u8b 0#8, u8b 0#8, u8b 0#8, u8b 0#8, u8b 0#8, u8b 0#8, u8b 0#8, u8b 0#8, u8b 0#8, u8b 0#8, u8b 0#8, u8b 0#8, .int .i64 0]) (by kernel_rfl)) ?_
  refine Zh5 rfl ?_; intro b5
  refine V2 ?_
  refine Zij (_) [] (.q 0 (.q 1 (.q 2 (.q 6 (.q 7 (.r 3 (.e 4 false (.q 5 (.q 8 (.e 9 false .nil)))))))))) (by kernel_rfl) (by kernel_rfl) (Imp.refl _) ?_
  refine W1 ?_
  refine Zim rfl (Zmy (h := 8) rfl rfl) ?_
  refine Zim rfl (Zl9 rfl) ?_
  refine W2 ?_
  refine Zix (n := 8) rfl rfl qH qZ (ext_map _ _ _) ?_
  refine Ziq rfl ?_
  refine Zh8 rfl (by kernel_rfl) (word_c (List.take 8 key) (by simp; omega)) rfl qT ?_
  rintro _ _ ⟨rfl, rfl⟩
  refine Y1 ?_
  refine Zg3 ⟨(fun hh => Bool.noConfusion hh), ?_⟩
  refine Zim rfl (Zlf (y := 1152921487695413247#64) rfl rfl) ?_
  first|refine Zim rfl (Zl5 (n := 0) rfl rfl) ?_|refine Zim rfl (Zl3 (n := 0) rfl rfl) ?_
  refine Ziq rfl ?_
  refine Y1 ?_
  refine Zg3 ⟨(fun hh => Bool.noConfusion hh), ?_⟩
  refine Zik ?_
  refine Ct.o ?_
  refine Zij (_) [] (.q 0 (.q 1 (.q 2 (.q 6 (.q 7 (.r 3 (.e 4 false (.q 5 (.q 8 (.e 9 false .nil)))))))))) (by kernel_rfl) (by kernel_rfl) (Imp.refl _) ?_
  refine W1 ?_
  refine Zim rfl (Zmx (l := 8) (h := 16) rfl rfl rfl) ?_
  refine Zim rfl (Zl9 rfl) ?_
  refine W2 ?_
  refine Zix (n := 8) rfl rfl qH qZ (ext_map _ _ _) ?_
  refine Ziq rfl ?_
  refine Zh8 rfl (by kernel_rfl) (word_c ((key.drop 8).take 8) (by simp; omega)) rfl qT ?_
  rintro _ _ ⟨rfl, rfl⟩
  refine Y1 ?_
  refine Zg3 ⟨(fun hh => Bool.noConfusion hh), ?_⟩
  refine Zim rfl (Zlf (y := 1152921487695413244#64) rfl rfl) ?_
  first|refine Zim rfl (Zl5 (n := 1) rfl rfl) ?_|refine Zim rfl (Zl3 (n := 1) rfl rfl) ?_
  refine Ziq rfl ?_
  refine Y1 ?_
  refine Zg3 ⟨(fun hh => Bool.noConfusion hh), ?_⟩
  refine Zik ?_
  refine Ct.o ?_
  refine Zij (_) [] (.q 0 (.q 1 (.q 2 (.q 5 (.q 6 (.r 3 (.e 4 false (.q 7 (.e 8 false .nil))))))))) (by kernel_rfl) (by kernel_rfl) (Imp.refl _) ?_
  refine W1 ?_
  refine Zim rfl (Zmx (l := 16) (h := 24) rfl rfl rfl) ?_
  refine Zim rfl (Zl9 rfl) ?_
  refine W2 ?_
  refine Zix (n := 8) rfl rfl qH qZ (ext_map _ _ _) ?_
  refine Ziq rfl ?_
  refine Zh8 rfl (by kernel_rfl) (word_c ((key.drop 16).take 8) (by simp; omega)) rfl qT ?_
  rintro _ _ ⟨rfl, rfl⟩
  refine Y1 ?_
  refine Zg3 ⟨(fun hh => Bool.noConfusion hh), ?_⟩
  first|refine Zim rfl (Zl5 (n := 0) rfl rfl) ?_|refine Zim rfl (Zl3 (n := 0) rfl rfl) ?_
  refine Ziq rfl ?_
  refine Y1 ?_
  refine Zg3 ⟨(fun hh => Bool.noConfusion hh), ?_⟩
  refine Zik ?_
  refine Ct.o ?_
  refine Zij (_) [] (.q 0 (.q 1 (.q 2 (.q 5 (.q 6 (.r 3 (.e 4 false (.q 7 (.e 8 false .nil))))))))) (by kernel_rfl) (by kernel_rfl) (Imp.refl _) ?_
  refine W1 ?_
  refine Zim rfl (Zmx (l := 24) (h := 32) rfl rfl rfl) ?_
  refine Zim rfl (Zl9 rfl) ?_
  refine W2 ?_
  refine Zix (n := 8) rfl rfl qH qZ (ext_map _ _ _) ?_
  refine Ziq rfl ?_
  refine Zh8 rfl (by kernel_rfl) (word_c ((key.drop 24).take 8) (by simp; omega)) rfl qT ?_
  rintro _ _ ⟨rfl, rfl⟩
  refine Y1 ?_
  refine Zg3 ⟨(fun hh => Bool.noConfusion hh), ?_⟩
  first|refine Zim rfl (Zl5 (n := 1) rfl rfl) ?_|refine Zim rfl (Zl3 (n := 1) rfl rfl) ?_
  refine Ziq rfl ?_
  refine Y1 ?_
  refine Zg3 ⟨(fun hh => Bool.noConfusion hh), ?_⟩
  refine Zik ?_
  refine V4 ?_
  refine rx1 (Zhb rfl (Zg7)) ?_
  have e : (key.drop 24).take 8 = key.drop 24 := List.take_of_length_le (by simp; omega)
  rw [e]
  exact ⟨_, ⟨b5, rfl, rfl⟩, by exact Imp.arr (by repeat (first|exact Arr.nil|exact Arr.stop|refine Arr.cons (by repeat constructor) ?_|refine Arr.skip ?_))⟩
theorem take_c {p : Nat} (t : PolyS) (ht : t.rest.length = 16) (b : List Byte) (hb : b.length = 16) (top : BitVec 64) : Con Tryz.prog 161 [.pointer (some ⟨p, 0, none⟩), .agg (b.map u8b).toArray, u64b top] [cl p (pc t) 235]
    (fun v M => v = .tuple #[] ∧ M = [cl p (pc (setH t (takeW t.h t.r b top))) 235]) := by
  have hsz := pc_size ht
  refine fn_x Tryz.func161 rfl rfl rfl Tryz.mixed (by kernel_rfl) ?_
  intro w0
  refine Y1 ?_
  refine Zh5 rfl ?_; intro b4
  refine Y5 ?_
  refine Zhq (n := 3) rfl qH qZ (pc_h t) ?_
  refine Zhz (cs := #[u64b 0#64, u64b 0#64, u64b 0#64]) rfl ?_; intro b6
  first|refine Zhy rfl rfl qR qZ qN qZ ?_|refine Zhx rfl rfl qR qZ qN qZ rfl ?_
  refine V4 ?_
  refine Zij (_) [4, 5] (.q 0 (.q 2 (.q 3 (.r 1 (.r 4 (.e 5 true (.q 6 (.q 7 (.q 8 (.q 9 (.q 10 (.e 11 false (.q 12 .nil))))))))))))) (by kernel_rfl) (by kernel_rfl) (Imp.refl _) ?_
  first|refine Zim rfl (Zl5 (n := 0) rfl rfl) ?_|refine Zim rfl (Zl3 (n := 0) rfl rfl) ?_
  refine Zim rfl (Zmy (h := 8) rfl rfl) ?_
  refine Zim rfl (Zl9 rfl) ?_
  refine W1 ?_
  refine Zix (n := 8) rfl rfl qH qZ (ext_map _ _ _) ?_
  refine Ziq rfl ?_
  refine Zh8 rfl (by kernel_rfl) (word_c _ (by simp; omega)) rfl qT ?_
  rintro _ _ ⟨rfl, rfl⟩
  refine Y1 ?_
  refine Zg3 ⟨fun _ => Imp.arr qV, ?_⟩
  refine Zim rfl (Zh9 rfl (ext_add64 _ _ 0#64 (by decide)) rfl) ?_
  refine W3 ?_
  first|refine Zim rfl (Zl5 (n := 0) rfl rfl) ?_|refine Zim rfl (Zl3 (n := 0) rfl rfl) ?_
  refine Ziq rfl ?_
  refine Y1 ?_
  refine Zg3 ⟨(fun hh => Bool.noConfusion hh), ?_⟩
  refine W2 ?_
  refine Ct.o ?_
  refine Zij (_) [4, 5] (.q 0 (.q 2 (.q 3 (.q 6 (.r 1 (.r 4 (.e 5 true (.q 7 (.q 8 (.q 9 (.q 10 (.q 11 (.e 12 false (.q 13 .nil)))))))))))))) (by kernel_rfl) (by kernel_rfl) (Imp.refl _) ?_
  first|refine Zim rfl (Zl5 (n := 1) rfl rfl) ?_|refine Zim rfl (Zl3 (n := 1) rfl rfl) ?_
  refine Zim rfl (Zmx (l := 8) (h := 16) rfl rfl rfl) ?_
  refine Zim rfl (Zl9 rfl) ?_
  refine W2 ?_
  refine Zix (n := 8) rfl rfl qH qZ (ext_map _ _ _) ?_
  refine Ziq rfl ?_
  refine Zh8 rfl (by kernel_rfl) (word_c _ (by simp; omega)) rfl qT ?_
  rintro _ _ ⟨rfl, rfl⟩
  refine Y1 ?_
  refine Zg3 ⟨fun _ => Imp.arr qV, ?_⟩
  refine Zim rfl (Zh9 rfl (ext_add64 _ _ _ (carry_le _ _ _ (by decide))) rfl) ?_
  refine W3 ?_
  first|refine Zim rfl (Zl5 (n := 1) rfl rfl) ?_|refine Zim rfl (Zl3 (n := 1) rfl rfl) ?_
  refine Ziq rfl ?_
  refine Y1 ?_
  refine Zg3 ⟨(fun hh => Bool.noConfusion hh), ?_⟩
  refine W2 ?_
  refine Y1 ?_
  first|refine Zhg (Zl5 (n := 2) rfl rfl) ?_|refine Zhg (Zl3 (n := 2) rfl rfl) ?_
  refine Y5 ?_
  first|refine Zhg (Zl5 (n := 2) rfl rfl) ?_|refine Zhg (Zl3 (n := 2) rfl rfl) ?_
  refine V2 ?_
  refine Zij (_) [5] (.q 0 (.q 2 (.q 3 (.q 4 (.r 1 (.r 5 (.e 6 false (.q 7 (.q 8 (.e 9 false .nil)))))))))) (by kernel_rfl) (by kernel_rfl) (Imp.refl _) ?_
  refine W5 ?_
  refine Zix (n := 2) rfl rfl qH qZ (pc_r t) ?_
  refine Ziq rfl ?_
  refine Zh8 rfl (by kernel_rfl) (times_c (_, _, _) _) rfl qT ?_
  rintro _ _ ⟨rfl, rfl⟩
  refine Y1 ?_
  refine Zg3 ⟨(fun hh => Bool.noConfusion hh), ?_⟩
  refine W2 ?_
  refine Ziq rfl ?_
  first|refine Zhy rfl rfl qR qZ qN qZ ?_|refine Zhx rfl rfl qR qZ qN qZ (pc_setH _ _) ?_
  refine Zg3 ⟨(fun hh => Bool.noConfusion hh), ?_⟩
  refine Zik ?_
  refine Ct.o ?_
  first|refine rx0 ?_|refine rx0n ?_
  have e : (b.drop 8).take (16 - 8) = b.drop 8 := List.take_of_length_le (by simp; omega)
  rw [e]
  exact ⟨_, ⟨rfl, rfl⟩, by exact Imp.arr (by repeat (first|exact Arr.nil|exact Arr.stop|refine Arr.cons (by repeat constructor) ?_|refine Arr.skip ?_))⟩
end Go.Sl

/- tag: Write, walked. -/
set_option maxHeartbeats 4000000
set_option maxRecDepth 10000
set_option linter.unusedVariables false
set_option linter.unusedSimpArgs false
namespace Go.Sl
open Go Go.Proofs
attribute [local irreducible] pt pur ex all den denOps denS xOps xC cX CX xthen xblk xcut xloop xng retX resX Calls PV Rd Con
attribute [local irreducible] pc writeS takeW full put1 setU setH
theorem setU_put1 (t : PolyS) (x : List Byte) : setU (setU (put1 t x) t.used) (t.used + x.length) = put1 t x := by unfold setU put1; rfl
theorem setU_used {t : PolyS} {n : Nat} (h : (setU t n).rest.length = 16) : (pc (setU t n))[23]? = some (.int .i64 n) := by
  rw [pc_used h]; unfold setU; rfl
theorem write_c {p : Nat} {L : List Asrt} (t : PolyS) (ht : PolyOk t) (b : List Byte) (a : Option Addr) (c : Nat) (hc : b.length ≤ c) (hcm : c ≤ 9223372036854775807) (hv : Rd L 1 (.slice a b.length c) b.length (b.map u8b)) :
    Con Tryz.prog 142 [.pointer (some ⟨p, 0, none⟩), .slice a b.length c] (cl p (pc t) 235 :: L)
      (fun v M => v = .tuple #[.int .i64 b.length, .nilIface] ∧ M = cl p (pc (writeS t b)) 235 :: L) := by
  refine fn_x Tryz.func142 rfl rfl rfl Tryz.mixed (by kernel_rfl) ?_
  intro w0
  refine V13 ?_
  refine Zgo [(6, 7), (12, 49)] (by kernel_rfl)
    (fun s : Nat × Option Addr × Nat × Nat => s.2.2.2 = b.length - s.1 ∧ s.1 ≤ b.length ∧ b.length - s.1 ≤ s.2.2.1 ∧ Rd L 1 (.slice s.2.1 (b.length - s.1) s.2.2.1) (b.length - s.1) ((b.drop s.1).map u8b))
    (fun s => cl p (pc (writeS t (b.take s.1))) 235 :: L) (fun s => [(6, .slice s.2.1 s.2.2.2 s.2.2.1)]) (fun s => b.length - s.1) (0, a, c, b.length) ⟨rfl, Nat.zero_le _, hc, hv⟩ (by dsimp only; rw [writeS_zero]; exact Imp.refl _) ⟨rfl, trivial⟩ ?_
  rintro ⟨i, a, c, n⟩ u ⟨hn, hi, hc, hv⟩
  dsimp only at hn hi hc hv ⊢
  subst hn
  have hti : PolyOk (writeS t (b.take i)) := writeS_ok ht
  generalize hT : writeS t (b.take i) = T at hti
  have hu := hti.used
  have hsz := pc_size hti.rest
  refine V5 ?_
  refine Zgg rfl (fun hB => ?_) (fun hB => ?_)
  · obtain ⟨m, hm⟩ : ∃ m, m = min (b.length - i) (16 - T.used) := ⟨_, rfl⟩
    have hm0 : 0 < m := by omega
    obtain ⟨x, hx⟩ : ∃ x, x = (b.drop i).take m := ⟨_, rfl⟩
    have hxl : x.length = m := by rw [hx]; simp; omega
    have htot : b.take (i + m) = b.take i ++ x := by rw [hx, List.take_add]
    have hw : writeS t (b.take (i + m)) = full (put1 T x) := by rw [htot, writeS_append, hT, write_put hti (by omega)]
    have hcp : wr (pc T) (7 + T.used) (((b.drop i).map u8b).take (m * 1)) = pc (setU (put1 T x) T.used) := by
      rw [← pc_copy hti.rest (by omega), ← List.map_take, Nat.mul_one, ← hx]
    have hpr : (put1 T x).rest.length = 16 := put1_rest hti (by omega)
    have hpru : (setU (put1 T x) T.used).rest.length = 16 := by unfold setU; exact hpr
    have hsz2 : (pc (setU (put1 T x) T.used)).size = 24 := pc_size hpru
    have hsz3 : (pc (put1 T x)).size = 24 := pc_size hpr
    have hs1 : (pc (setU (put1 T x) T.used)).setIfInBounds 23 (.int .i64 ((T.used + m : Nat) : Int)) = pc (put1 T x) := by
      rw [pc_setUsed (t := setU (put1 T x) T.used) hpru (T.used + m), ← hxl, setU_put1]
    have hv2 : Rd L 1 (.slice (if c = m then a else a.map (·.add (m * 1))) (b.length - (i + m)) (c - m)) (b.length - (i + m)) ((b.drop (i + m)).map u8b) := by
      have := hv.cut (l := m) (by omega) hc
      rw [← List.map_drop, List.drop_drop] at this
      rwa [show b.length - (i + m) = b.length - i - m by omega]
    refine Ct.o ?_
    refine Zij (_) [] (.q 0 (.q 1 (.q 2 (.q 3 (.q 4 (.q 5 (.q 8 (.r 6 (.q 7 (.e 9 false (.q 10 .nil))))))))))) (by kernel_rfl) (by kernel_rfl) (Imp.refl _) ?_
    refine W7 ?_
    refine Ziv rfl rfl qH (pc_used hti.rest) ?_
    refine Zim rfl (Zmx (h := 16) rfl rfl rfl) ?_
    refine Ziq rfl ?_; refine Zib (c' := pc (setU (put1 T x) T.used)) rfl rfl (hv.imp Imp.tail) qR (by rw [hsz]; omega) (oneM_u8 _) (by rw [← hm]; exact hcp) ?_; refine Zg3 ⟨(fun hh => Bool.noConfusion hh), ?_⟩
    refine W2 ?_
    refine Ct.o ?_
    rw [← hm]
    refine Y4 ?_
    refine Zhp rfl qH (setU_used hpru) ?_
    refine Y4 ?_
    refine Zht rfl rfl qR qZ (hs1) ?_
    refine Y4 ?_
    refine Zhg (Zm1 (l := m) (h := b.length - i) rfl rfl rfl (by omega) (by omega)) ?_
    refine Y6 ?_
    refine Zhp rfl qH (pc_used hpr) ?_
    refine V2 ?_
    rw [show b.length - i - m = b.length - (i + m) by omega]
    refine Zgg rfl (fun hB2 => ?_) (fun hB2 => ?_)
    · have hprh : (setH (put1 T x) (takeW (put1 T x).h (put1 T x).r (put1 T x).rest 1#64)).rest.length = 16 := by unfold setH; exact hpr
      have hfull : full (put1 T x) = setU (setH (put1 T x) (takeW (put1 T x).h (put1 T x).r (put1 T x).rest 1#64)) 0 := by rw [full, if_pos hB2]
      have hsz4 : (pc (setH (put1 T x) (takeW (put1 T x).h (put1 T x).r (put1 T x).rest 1#64))).size = 24 := pc_size hprh
      have hs2 : (pc (setH (put1 T x) (takeW (put1 T x).h (put1 T x).r (put1 T x).rest 1#64))).setIfInBounds 23 (.int .i64 0) = pc (writeS t (b.take (i + m))) := by
        rw [hw, hfull]
        exact pc_setUsed hprh 0
      refine Y5 ?_
      refine Zhq (n := 16) rfl qH qZ (pc_rest hpr) ?_
      refine Zh8 rfl (by kernel_rfl) (take_c _ hpr _ hpr 1#64) rfl qT ?_
      rintro _ _ ⟨rfl, rfl⟩
      refine Y6 ?_
      refine Zht rfl rfl qR qZ (hs2) ?_
      refine V1 ?_
      exact Zgl (i + m, _, _, _) (by dsimp only; omega) ⟨rfl, by dsimp only; omega, by dsimp only; omega, hv2⟩ qI ⟨rfl, trivial⟩
    · have hw2 : writeS t (b.take (i + m)) = put1 T x := by rw [hw, full, if_neg hB2]
      rw [← hw2]
      refine Ct.o ?_
      exact Zgl (i + m, _, _, _) (by dsimp only; omega) ⟨rfl, by dsimp only; omega, by dsimp only; omega, hv2⟩ qI ⟨rfl, trivial⟩
  · have hie : i = b.length := by omega
    have hw : T = writeS t b := by rw [← hT, List.take_of_length_le (by omega)]
    refine V6 ?_
    refine rx2 (Zg9 rfl (Zg8 rfl (Zg7))) ?_
    rw [hw]
    exact ⟨_, ⟨rfl, rfl⟩, by exact Imp.arr (by repeat (first|exact Arr.nil|exact Arr.stop|refine Arr.cons (by repeat constructor) ?_|refine Arr.skip ?_))⟩
end Go.Sl

/- tag: Sum, walked. -/
set_option maxHeartbeats 4000000
set_option maxRecDepth 10000
set_option linter.unusedVariables false
set_option linter.unusedSimpArgs false
namespace Go.Sl
open Go Go.Proofs
attribute [local irreducible] pt pur ex all den denOps denS xOps xC cX CX xthen xblk xcut xloop xng retX resX Calls PV Rd Con
attribute [local irreducible] pc writeS takeW full put1 setU setH
theorem sum_c {p : Nat} (t : PolyS) (ht : PolyOk t) : Con Tryz.prog 143 [.pointer (some ⟨p, 0, none⟩)] [cl p (pc t) 235] (fun v M => v = .agg ((sumS t).map u8b).toArray ∧ M = [cl p (pc t) 235]) := by
  have hr := ht.rest
  have hu := ht.used
  have hsz := pc_size hr
  refine fn_x Tryz.func143 rfl rfl rfl Tryz.mixed (by kernel_rfl) ?_
  intro w0
  refine Y1 ?_
  refine Zhz (cs := ((List.replicate 16 0#8).map u8b).toArray) rfl ?_; intro b2
  refine Y10 ?_
  refine Zhz (cs := #[u64b 0#64, u64b 0#64, u64b 0#64, u64b 0#64, u64b 0#64, u64b 0#64, u64b 0#64, u8b 0#8, u8b 0#8, u8b 0#8, u8b 0#8, u8b 0#8, u8b 0#8, u8b 0#8, u8b 0#8, u8b 0#8, u8b 0#8, u8b 0#8, u8b 0#8, u8b 0#8, u8b 0#8, u8b 0#8, u8b 0#8, .int .i64 0]) rfl ?_; intro b3
  first|refine Zhy rfl rfl qR qZ (by first|rfl|exact oneM_u8 _|exact oneL_u8 _|exact pc_one _|(simp [oneC]; done)) qZ ?_|refine Zhx rfl rfl qR qZ (by first|rfl|exact oneM_u8 _|exact oneL_u8 _|exact pc_one _|(simp [oneC]; done)) qZ rfl ?_
  refine Y3 ?_
  refine Zhp rfl qH (pc_used hr) ?_
  refine V2 ?_
  refine Zgn [(4, 4), (22, 32)] (by kernel_rfl) (fun _ : Unit => True) (fun _ => [cl b3 (pc (finS t)) 235, cl b2 ((List.replicate 16 0#8).map u8b).toArray 178, cl p (pc t) 235]) (fun _ => []) ?_ ?_
  · refine Zgg rfl (fun hB => ?_) (fun hB => ?_)
    · refine Y1 ?_
      refine Zhz (cs := ((List.replicate 16 0#8).map u8b).toArray) rfl ?_; intro b4
      refine V1 ?_
      refine Zij (_) [] (.q 0 (.q 1 (.q 2 (.r 3 (.q 4 (.e 5 false .nil)))))) (by kernel_rfl) (by kernel_rfl) (Imp.refl _) ?_
      refine Zim rfl (Zmy (h := 16) rfl rfl) ?_
      refine W2 ?_
      refine Ziv rfl rfl qH (pc_used hr) ?_
      refine Zim rfl (Zmy (h := t.used) rfl rfl (by omega) (by omega)) ?_
      refine Ziq rfl ?_
      refine Zib rfl rfl (Rd.cl (xs := (t.rest.take t.used).map u8b) qH (by simp; omega) (by rw [hsz]; omega) (pc_restTake hr (by omega))) qR qZ (by first|rfl|exact oneM_u8 _|exact oneL_u8 _|exact pc_one _|(simp [oneC]; done)) ((by rw [List.take_of_length_le (by simp; omega)]; exact copy_last hr hu : _ = ((t.rest.take t.used ++ List.replicate (16 - t.used) 0#8).map u8b).toArray)) ?_
      refine Zg3 ⟨(fun hh => Bool.noConfusion hh), ?_⟩
      refine Zik ?_
      refine Y2 ?_
      refine Zhp rfl qH (pc_used hr) ?_
      refine Y1 ?_
      refine Zhs rfl (v := u8b 1#8) rfl rfl qR qZ (setL (f := u8b) (l := t.rest.take t.used ++ List.replicate (16 - t.used) 0#8)) ?_
      refine Y3 ?_
      refine Zh8 rfl (by kernel_rfl) (take_c t hr (lastB t) (lastB_len hr (by omega)) 0#64) rfl qT ?_
      rintro _ _ ⟨rfl, rfl⟩
      refine V2 ?_
      have e : finS t = setH t (takeW t.h t.r (lastB t) 0#64) := by rw [finS, if_pos hB]
      exact Zgk () trivial (by rw [e]; exact Imp.arr (by repeat (first|exact Arr.nil|exact Arr.stop|refine Arr.cons (by repeat constructor) ?_|refine Arr.skip ?_))) trivial
    · refine Ct.o ?_
      have e : finS t = t := by rw [finS, if_neg hB]
      exact Zgk () trivial (by rw [e]; exact Imp.arr (by repeat (first|exact Arr.nil|exact Arr.stop|refine Arr.cons (by repeat constructor) ?_|refine Arr.skip ?_))) trivial
  rintro _ u _
  have hszf : (pc (finS t)).size = 24 := pc_size (by rw [finS_rest]; exact hr)
  refine Y2 ?_
  refine Zhq (n := 3) rfl qH qZ (pc_h _) ?_
  refine Zhz (cs := #[u64b 0#64, u64b 0#64, u64b 0#64]) rfl ?_; intro b5
  first|refine Zhy rfl rfl qR qZ (by first|rfl|exact oneM_u8 _|exact oneL_u8 _|exact pc_one _|(simp [oneC]; done)) qZ ?_|refine Zhx rfl rfl qR qZ (by first|rfl|exact oneM_u8 _|exact oneL_u8 _|exact pc_one _|(simp [oneC]; done)) qZ rfl ?_
  refine Y2 ?_
  first|refine Zhg (Zl5 (n := 0) rfl rfl) ?_|refine Zhg (Zl3 (n := 0) rfl rfl) ?_
  refine Y1 ?_
  refine Zhg (Zh9 rfl (ext_sub64 _ 18446744073709551611#64 0#64 (by decide)) rfl) ?_
  refine Y7 ?_
  first|refine Zhg (Zl5 (n := 1) rfl rfl) ?_|refine Zhg (Zl3 (n := 1) rfl rfl) ?_
  refine Y2 ?_
  refine Zhg (Zh9 rfl (ext_sub64 _ 18446744073709551615#64 _ (borrow_le _ _ _)) rfl) ?_
  refine Y7 ?_
  first|refine Zhg (Zl5 (n := 2) rfl rfl) ?_|refine Zhg (Zl3 (n := 2) rfl rfl) ?_
  refine Y2 ?_
  refine Zhg (Zh9 rfl (ext_sub64 _ 3#64 _ (borrow_le _ _ _)) rfl) ?_
  refine Y7 ?_
  refine Zhg (Zlm rfl) ?_
  refine Y3 ?_
  first|refine Zhg (Zl5 (n := 0) rfl rfl) ?_|refine Zhg (Zl3 (n := 0) rfl rfl) ?_
  refine Y5 ?_
  refine Zhg (Zli rfl rfl) ?_
  refine Y1 ?_
  first|refine Zhg (Zl5 (n := 0) rfl rfl) ?_|refine Zhg (Zl3 (n := 0) rfl rfl) ?_
  refine Y3 ?_
  first|refine Zhg (Zl5 (n := 1) rfl rfl) ?_|refine Zhg (Zl3 (n := 1) rfl rfl) ?_
  refine Y5 ?_
  refine Zhg (Zli rfl rfl) ?_
  refine Y1 ?_
  first|refine Zhg (Zl5 (n := 1) rfl rfl) ?_|refine Zhg (Zl3 (n := 1) rfl rfl) ?_
  refine Y6 ?_
  first|refine Zhg (Zl5 (n := 0) rfl rfl) ?_|refine Zhg (Zl3 (n := 0) rfl rfl) ?_
  refine Y2 ?_
  first|refine Zhg (Zl5 (n := 0) rfl rfl) ?_|refine Zhg (Zl3 (n := 0) rfl rfl) ?_
  refine Zhp rfl qH (pc_s0 _) ?_
  refine Zhg (Zh9 rfl (ext_add64 _ _ 0#64 (by decide)) rfl) ?_
  refine Y3 ?_
  first|refine Zhg (Zl5 (n := 0) rfl rfl) ?_|refine Zhg (Zl3 (n := 0) rfl rfl) ?_
  refine Y4 ?_
  first|refine Zhg (Zl5 (n := 1) rfl rfl) ?_|refine Zhg (Zl3 (n := 1) rfl rfl) ?_
  refine Y2 ?_
  first|refine Zhg (Zl5 (n := 1) rfl rfl) ?_|refine Zhg (Zl3 (n := 1) rfl rfl) ?_
  refine Zhp rfl qH (pc_s1 _) ?_
  refine Y1 ?_
  refine Zhg (Zh9 rfl (ext_add64 _ _ _ (carry_le _ _ _ (by decide))) rfl) ?_
  refine Y3 ?_
  first|refine Zhg (Zl5 (n := 1) rfl rfl) ?_|refine Zhg (Zl3 (n := 1) rfl rfl) ?_
  refine Y3 ?_
  refine Zhz (cs := ((List.replicate 16 0#8).map u8b).toArray) rfl ?_; intro b11
  refine V4 ?_
  refine Zgo [(12, 12), (96, 110)] (by kernel_rfl) (fun i : Nat => i ≤ 16)
    (fun i => [cl b11 ((upto (outB (outW (finS t).h (finS t).s)) i).map u8b).toArray 178, cl b5 (hA ((outW (finS t).h (finS t).s).1, (outW (finS t).h (finS t).s).2, (finS t).h.2.2)) 233, cl b2 ((List.replicate 16 0#8).map u8b).toArray 178, cl p (pc t) 235])
    (fun i => [(96, .int .i64 (i : Int))]) (fun i => 16 - i) 0 (by omega) (by rw [upto_zero]; exact Imp.arr (by repeat (first|exact Arr.nil|exact Arr.stop|refine Arr.cons (by repeat constructor) ?_|refine Arr.skip ?_))) ⟨rfl, trivial⟩ ?_
  intro i u hi
  try dsimp only at hi
  try dsimp only
  generalize hO : outW (finS t).h (finS t).s = O
  have hul : (upto (outB O) i).length = 16 := by simp [upto]
  refine V3 ?_
  refine Zgg rfl (fun hB => ?_) (fun hB => ?_)
  · have hld : (hA (O.1, O.2, (finS t).h.2.2))[i / 8]? = some (u64b (if i / 8 = 0 then O.1 else O.2)) := by
      have : i / 8 = 0 ∨ i / 8 = 1 := by omega
      rcases this with h|h <;> rw [h] <;> rfl
    refine Y9 ?_
    refine Zhp rfl qH (hld) ?_
    refine Y2 ?_
    first|refine Zhg (Zmc (a := 8) rfl rfl) ?_|refine Zhg (Zbi rfl rfl) ?_
    refine Zhg (Zlk rfl rfl) ?_
    refine Zhg (Zlx rfl) ?_
    refine Y1 ?_
    refine Zht rfl rfl qR qZ (setL (f := u8b) (l := upto (outB O) i)) ?_
    refine V5 ?_
    refine Zgl (i + 1) qO qO ?_ ⟨rfl, trivial⟩
    try dsimp only
    rw [← upto_set]
    exact Imp.arr (by repeat (first|exact Arr.nil|exact Arr.stop|refine Arr.cons (by repeat constructor) ?_|refine Arr.skip ?_))
  · have hi16 : i = 16 := by omega
    subst hi16
    rw [upto_end]
    refine Y2 ?_
    first|refine Zhy rfl rfl qR qZ (by first|rfl|exact oneM_u8 _|exact oneL_u8 _|exact pc_one _|(simp [oneC]; done)) qZ ?_|refine Zhx rfl rfl qR qZ (by first|rfl|exact oneM_u8 _|exact oneL_u8 _|exact pc_one _|(simp [oneC]; done)) qZ rfl ?_
    refine V1 ?_
    refine rx1 (Zhe rfl qH qZ (Zg7)) ?_
    rw [← hO]
    exact ⟨_, ⟨rfl, rfl⟩, by exact Imp.arr (by repeat (first|exact Arr.nil|exact Arr.stop|refine Arr.cons (by repeat constructor) ?_|refine Arr.skip ?_))⟩
end Go.Sl

/- seal: the tag of a cover, walked. -/
set_option maxHeartbeats 4000000
set_option maxRecDepth 10000
set_option linter.unusedVariables false
set_option linter.unusedSimpArgs false
namespace Go.Sl
open Go Go.Proofs
attribute [local irreducible] pt pur ex all den denOps denS xOps xC cX CX xthen xblk xcut xloop xng retX resX Calls PV Rd Con
attribute [local irreducible] pc writeS takeW full put1 setU setH code sumS blockB ksB xorB
theorem writeB_x {p : Nat} {L : List Asrt} (t : PolyS) (ht : PolyOk t) {v : Value} {l : List Byte} (h : Bs L v l) :
    Con Tryz.prog 142 [.pointer (some ⟨p, 0, none⟩), v] (cl p (pc t) 235 :: L) (fun r M => r = .tuple #[.int .i64 l.length, .nilIface] ∧ cl p (pc (writeS t l)) 235 :: L = M) := by
  refine Con.get (fun w0 w F H => (h.imp Imp.tail).sh _ _ _ H) ?_
  rintro ⟨a, c, rfl, h1, h2⟩
  refine (write_c (L := L) t ht l a c h1 h2 h.rd).mono ?_
  rintro v M ⟨rfl, rfl⟩
  exact ⟨_, Imp.refl _, rfl, rfl⟩
/-- What has been written ahead of a part. -/
def msgB (more cover : List Byte) (i : Nat) : List Byte := if i = 0 then [] else if i = 1 then more ++ padB more else (more ++ padB more) ++ (cover ++ padB cover)
theorem msgB_succ (more cover : List Byte) (i : Nat) (h : i < 2) : msgB more cover (i + 1) = (msgB more cover i ++ (if i = 0 then more else cover)) ++ padB (if i = 0 then more else cover) := by
  match i, h with
  | 0, _ => simp [msgB]
  | 1, _ => simp [msgB]
theorem key_cp (b : List Byte) (h : b.length = 64) : wr (((List.replicate 32 0#8).map u8b).toArray) 0 ((b.map u8b).take (min 64 32 * 1)) = ((b.take 32).map u8b).toArray := by
  rw [show min 64 32 * 1 = 32 from rfl, ← List.map_take]
  have := wr_all (((b.take 32).map u8b).toArray) (((List.replicate 32 0#8).map u8b).toArray) (by simp [h])
  exact this
theorem len_conv (n : Nat) : BitVec.ofInt 64 ((n : Nat) : Int) = BitVec.ofNat 64 n := BitVec.ofInt_natCast ..
theorem vouch_x {L : List Asrt} (key nonce : List Byte) (hk : key.length = 32) (hn : nonce.length = 12) {vm vc : Value} {more cover : List Byte} (hm : Bs L vm more) (hc : Bs L vc cover) (hml : more.length ≤ 140737488351232) (hcl : cover.length ≤ 140737488351232) :
    Con Tryz.prog 118 [.agg (key.map u8b).toArray, .agg (nonce.map u8b).toArray, vm, vc] L (fun r M => r = .agg ((vouchB key nonce more cover).map u8b).toArray ∧ L = M) := by
  refine Con.get (fun w0 w F H => hm.sh _ _ _ H) ?_
  rintro ⟨ma, mc, rfl, hmc, hmcm⟩
  refine Con.get (fun w0 w F H => hc.sh _ _ _ H) ?_
  rintro ⟨ca, cc, rfl, hcc, hccm⟩
  have hbl := blockB_len key 0#32 nonce
  have hol := oneKey_len key nonce
  have hone : (blockB key 0#32 nonce).take 32 = oneKey key nonce := rfl
  refine fn_x Tryz.func118 rfl rfl rfl Tryz.mixed (by kernel_rfl) ?_
  intro w0
  refine Y1 ?_
  refine Zh5 rfl ?_; intro b4
  refine Zh5 rfl ?_; intro b5
  refine Zhz (cs := ((List.replicate 16 0#8).map u8b).toArray) rfl ?_; intro b8
  refine Y2 ?_
  refine Zhz (cs := ((List.replicate 32 0#8).map u8b).toArray) rfl ?_; intro b9
  refine Y4 ?_
  refine Zh8 rfl (by kernel_rfl) (block_x key 0#32 nonce hk hn) rfl qT ?_
  rintro _ _ ⟨rfl, rfl⟩
  refine Y1 ?_
  refine Zhz (cs := ((List.replicate 64 0#8).map u8b).toArray) rfl ?_; intro b10
  first|refine Zhy rfl rfl qR qZ (by first|rfl|exact oneM_u8 _|exact oneL_u8 _|exact pc_one _|(simp [oneC]; done)) qZ ?_|refine Zhx rfl rfl qR qZ (by first|rfl|exact oneM_u8 _|exact oneL_u8 _|exact pc_one _|(simp [oneC]; done)) qZ rfl ?_
  refine V1 ?_
  refine Zij ([]) [] (.q 0 (.q 1 (.e 2 false .nil))) (by kernel_rfl) (by kernel_rfl) (Imp.arr Arr.stop) ?_
  refine Zim rfl (Zmy (h := 32) rfl rfl) ?_
  refine Zim rfl (Zmy (h := 64) rfl rfl) ?_
  refine Ziq rfl ?_
  refine Zib rfl rfl (Rd.cl (o := 0) (xs := (blockB key 0#32 nonce).map u8b) qH (by simp [hbl]) (by simp [hbl]) (by simp; exact List.take_of_length_le (by simp [hbl]))) qR qZ (by first|rfl|exact oneM_u8 _|exact oneL_u8 _|exact pc_one _|(simp [oneC]; done)) (key_cp _ hbl) ?_
  refine Zg3 ⟨(fun hh => Bool.noConfusion hh), ?_⟩
  refine Zik ?_
  refine Ct.o ?_
  rw [hone]
  generalize hone2 : oneKey key nonce = one at hol
  refine Y2 ?_
  refine Zh8 rfl (by kernel_rfl) (new_c one hol) rfl qT ?_
  rintro _ _ ⟨p, rfl, rfl⟩
  refine Y4 ?_
  refine Zhz (cs := ((List.replicate 16 0#8).map u8b).toArray) rfl ?_; intro b12
  refine Y4 ?_
  refine Zh7 (cs := #[.slice ma more.length mc, .slice ca cover.length cc]) (by omega) (by omega) qF ?_; intro b25
  refine V3 ?_
  refine Zgo [(14, 14), (27, 42)] (by kernel_rfl) (fun i : Nat => i ≤ 2) (fun i => cl p (pc (writeS (newS one) (msgB more cover i))) 235 :: cl b25 #[.slice ma more.length mc, .slice ca cover.length cc] 33 :: cl b12 ((List.replicate 16 0#8).map u8b).toArray 177 :: cl b8 ((List.replicate 16 0#8).map u8b).toArray 178 :: L)
    (fun i => [(27, nvv i)]) (fun i => 2 - i) 0 (by omega) (by show Imp _ (cl p (pc (writeS (newS one) [])) _ :: _); rw [writeS_nil]; exact qI) ⟨rfl, trivial⟩ ?_
  intro i u hi
  have hok : PolyOk (writeS (newS one) (msgB more cover i)) := writeS_ok (newS_ok one)
  refine V3 ?_
  refine Zgg rfl (fun hB => ?_) (fun hB => ?_)
  · obtain ⟨x, hx⟩ : ∃ x, x = if i = 0 then more else cover := ⟨_, rfl⟩
    obtain ⟨xa, xc, hxv, hxb, hxl⟩ : ∃ xa xc, (#[.slice ma more.length mc, .slice ca cover.length cc] : Array Value)[i]? = some (.slice xa x.length xc) ∧ Bs L (.slice xa x.length xc) x ∧ x.length ≤ 140737488351232 := by
      match i, hB with
      | 0, _ => exact ⟨ma, mc, by rw [hx]; rfl, by rw [hx]; exact hm, by rw [hx]; exact hml⟩
      | 1, _ => exact ⟨ca, cc, by rw [hx]; rfl, by rw [hx]; exact hc, by rw [hx]; exact hcl⟩
    have hk16 : (16 - x.length % 16) % 16 ≤ 16 := by omega
    refine Y2 ?_
    refine Zhp rfl qH (hxv) ?_
    refine Y5 ?_
    refine Zh8 rfl (by kernel_rfl) (writeB_x (L := L) _ hok hxb) rfl qT ?_
    rintro _ _ ⟨rfl, rfl⟩
    refine V2 ?_
    rw [← writeS_append]
    have hok2 : PolyOk (writeS (newS one) (msgB more cover i ++ x)) := writeS_ok (newS_ok one)
    have hz := bs_piece (M := [cl b12 ((List.replicate 16 0#8).map u8b).toArray 177]) (o := 0) (n := (16 - x.length % 16) % 16) (c := 16) .here (by simp; omega) (by omega) (by omega)
    have hpd : ((List.replicate 16 0#8).drop 0).take ((16 - x.length % 16) % 16) = padB x := by
      unfold padB; rw [List.drop_zero, List.take_replicate]; congr 1; omega
    rw [hpd] at hz
    refine Y5 ?_
    first|refine Zhg (Zmb (a := 16) rfl rfl) ?_|refine Zhg (Zbh rfl rfl) ?_
    refine Y1 ?_
    refine Zhg (Zmy (h := (16 - x.length % 16) % 16) rfl rfl (by omega) (by omega)) ?_
    refine Zh8 rfl (by kernel_rfl) (writeB_x (L := [cl b12 ((List.replicate 16 0#8).map u8b).toArray 177]) _ hok2 hz) rfl qT ?_
    rintro _ _ ⟨rfl, rfl⟩
    refine V2 ?_
    rw [← writeS_append, hx, ← msgB_succ more cover i hB]
    refine V4 ?_
    exact Zgl (i + 1) qO (by omega) qI ⟨rfl, trivial⟩
  · have hie : i = 2 := by omega
    subst hie
    refine Y4 ?_
    refine Zhg (Zlv rfl) ?_
    refine Zh8 rfl (by kernel_rfl) (put64_x (L := []) (BitVec.ofNat 64 more.length) Bs.nil (by simp)) rfl qT ?_
    rintro _ _ ⟨pa, pcc, rfl, rfl⟩
    refine Y3 ?_
    refine Zhg (Zlv rfl) ?_
    refine Zh8 rfl (by kernel_rfl) (put64_x (L := [own 5 1 (.slice pa ([] ++ leB (BitVec.ofNat 64 more.length) 8).length pcc) ([] ++ leB (BitVec.ofNat 64 more.length) 8).length (([] ++ leB (BitVec.ofNat 64 more.length) 8).map u8b)]) (BitVec.ofNat 64 cover.length) (Bs.own .here) (by simp [leB_len])) rfl qT ?_
    rintro _ _ ⟨qa, qc, rfl, rfl⟩
    refine Y1 ?_
    refine Zh8 rfl (by kernel_rfl) (writeB_x (L := [own 5 1 (.slice qa (([] ++ leB (BitVec.ofNat 64 more.length) 8) ++ leB (BitVec.ofNat 64 cover.length) 8).length qc) (([] ++ leB (BitVec.ofNat 64 more.length) 8) ++ leB (BitVec.ofNat 64 cover.length) 8).length ((([] ++ leB (BitVec.ofNat 64 more.length) 8) ++ leB (BitVec.ofNat 64 cover.length) 8).map u8b)]) _ hok (Bs.own .here)) rfl qT ?_
    rintro _ _ ⟨rfl, rfl⟩
    refine V2 ?_
    rw [← writeS_append]
    have hok2 : PolyOk (writeS (newS one) (msgB more cover 2 ++ (([] ++ leB (BitVec.ofNat 64 more.length) 8) ++ leB (BitVec.ofNat 64 cover.length) 8))) := writeS_ok (newS_ok one)
    have hfin : sumS (writeS (newS one) (msgB more cover 2 ++ (([] ++ leB (BitVec.ofNat 64 more.length) 8) ++ leB (BitVec.ofNat 64 cover.length) 8))) = vouchB key nonce more cover := by
      unfold vouchB code macB; rw [hone2, List.nil_append]; rfl
    have hvl := vouchB_len key nonce more cover
    have hfl := congrArg List.length hfin
    refine Y2 ?_
    refine Zh8 rfl (by kernel_rfl) (sum_c _ hok2) rfl qT ?_
    rintro _ _ ⟨rfl, rfl⟩
    refine Y1 ?_
    first|refine Zhy rfl rfl qR qZ (by first|rfl|exact oneM_u8 _|exact oneL_u8 _|exact pc_one _|(simp [oneC]; done)) qZ ?_|refine Zhx rfl rfl qR qZ (by first|rfl|exact oneM_u8 _|exact oneL_u8 _|exact pc_one _|(simp [oneC]; done)) qZ rfl ?_
    refine V1 ?_
    rw [hfin]
    refine rx1 (Zhe rfl qH qZ (Zg7)) ?_
    exact ⟨_, ⟨rfl, rfl⟩, qI⟩
end Go.Sl

/- seal: Seal, look, Open, Peek, Nonce, walked. -/
set_option maxHeartbeats 4000000
set_option maxRecDepth 10000
set_option linter.unusedVariables false
set_option linter.unusedSimpArgs false
namespace Go.Sl
open Go Go.Proofs
attribute [local irreducible] pt pur ex all den denOps denS xOps xC cX CX xthen xblk xcut xloop xng retX resX Calls PV Rd Con
attribute [local irreducible] code blockB ksB xorB vouchB leB
/-- What Seal answers. -/
def sealR (key nonce more text : List Byte) : List Byte × Nat := if 1048576 < more.length ∨ 1048576 < text.length then ([], 3) else (sealB key nonce more text, 0)
theorem seal_x {L : List Asrt} (key nonce : List Byte) (hk : key.length = 32) (hn : nonce.length = 12) {vm vt : Value} {more text : List Byte} (hm : Bs L vm more) (ht : Bs L vt text) (hml : more.length ≤ 140737488351232) (htl : text.length ≤ 140737488351232) :
    Con Tryz.prog 110 [.agg (key.map u8b).toArray, .agg (nonce.map u8b).toArray, vm, vt] L (fun r M => ∃ a c, r = .tuple #[.slice a (sealR key nonce more text).1.length c, nvv (sealR key nonce more text).2] ∧ M = own 5 1 (.slice a (sealR key nonce more text).1.length c) (sealR key nonce more text).1.length ((sealR key nonce more text).1.map u8b) :: L) := by
  refine Con.get (fun w0 w F H => hm.sh _ _ _ H) ?_
  rintro ⟨ma, mc, rfl, hmc, hmcm⟩
  refine Con.get (fun w0 w F H => ht.sh _ _ _ H) ?_
  rintro ⟨ta, tc, rfl, htc, htcm⟩
  by_cases hlong : 1048576 < more.length ∨ 1048576 < text.length
  · have e : sealR key nonce more text = ([], 3) := if_pos hlong
    rw [e]
    refine fn_x Tryz.func110 rfl rfl rfl Tryz.mixed (by kernel_rfl) ?_
    intro w0
    refine Y1 ?_
    refine Zh5 rfl ?_; intro b4
    refine Zh5 rfl ?_; intro b5
    refine V3 ?_
    by_cases h1 : 1048576 < more.length
    · refine Y4 ?_
      refine Zhm 16 rfl (decide_eq_true (h1)) ?_
      refine V11 ?_
      refine rx2 (Zhc rfl (Zg9 rfl (Zg7))) ?_
      exact ⟨_, ⟨none, 0, rfl, rfl⟩, (Imp.arr (N := L) qV).trans Imp.own_nil⟩
    · refine Y4 ?_
      refine Zhn 16 rfl (decide_eq_false (h1)) ?_
      refine Y4 ?_
      refine Zhm 20 rfl (decide_eq_true ((hlong.resolve_left h1))) ?_
      refine V7 ?_
      refine rx2 (Zhc rfl (Zg9 rfl (Zg7))) ?_
      exact ⟨_, ⟨none, 0, rfl, rfl⟩, (Imp.arr (N := L) qV).trans Imp.own_nil⟩
  · have e : sealR key nonce more text = (sealB key nonce more text, 0) := if_neg hlong
    rw [e]
    have h1 : ¬ 1048576 < more.length := fun h => hlong (.inl h)
    have h2 : ¬ 1048576 < text.length := fun h => hlong (.inr h)
    have hxl := xorB_len key nonce 64 text
    have hvl := vouchB_len key nonce more (xorB key nonce 64 text)
    refine fn_x Tryz.func110 rfl rfl rfl Tryz.mixed (by kernel_rfl) ?_
    intro w0
    refine Y1 ?_
    refine Zh5 rfl ?_; intro b4
    refine Zh5 rfl ?_; intro b5
    refine Y7 ?_
    refine Zhn 16 rfl (decide_eq_false (h1)) ?_
    refine Y4 ?_
    refine Zhn 20 rfl (decide_eq_false (h2)) ?_
    refine Y7 ?_
    refine Zh8 rfl (by kernel_rfl) (xor_x (L := L) key nonce hk hn ht (by omega)) rfl qT ?_
    rintro _ _ ⟨g, rfl, rfl⟩
    refine Y10 ?_
    refine Zhn 30 rfl (decide_eq_false ((fun h => h rfl))) ?_
    refine V2 ?_
    have hcv : Bs (cl g ((xorB key nonce 64 text).map u8b).toArray 5 :: L) (.slice (some ⟨g, 0, none⟩) text.length text.length) (xorB key nonce 64 text) := by
      have := Bs.cl (M := cl g ((xorB key nonce 64 text).map u8b).toArray 5 :: L) (o := 0) (c := text.length) (l := xorB key nonce 64 text) .here (by simp) (by simp; exact List.take_of_length_le (by simp)) (by omega) (by omega)
      rwa [hxl] at this
    refine Y5 ?_
    refine Zh8 rfl (by kernel_rfl) (vouch_x (L := cl g ((xorB key nonce 64 text).map u8b).toArray 5 :: L) key nonce hk hn (hm.imp Imp.tail) hcv (by omega) (by omega)) rfl qT ?_
    rintro _ _ ⟨rfl, rfl⟩
    refine Y1 ?_
    refine Zhz (cs := ((List.replicate 16 0#8).map u8b).toArray) rfl ?_; intro b12
    first|refine Zhy rfl rfl qR qZ qN qZ ?_|refine Zhx rfl rfl qR qZ qN qZ rfl ?_
    refine Y5 ?_
    refine Zm3 (f := u8b) (a := 0#8) (len := 0) rfl rfl rfl qS qS qS ?_; intro b40
    refine V2 ?_
    refine Zgp (Imp.own_mk (n := 0) (cap := text.length + 16) (size := 1) (xs := []) (by omega) (by omega) (by simp) (by simp)) ?_
    have hcr : Rd (cl g ((xorB key nonce 64 text).map u8b).toArray 5 :: L) 1 (.slice (some ⟨g, 0, none⟩) text.length text.length) text.length ((xorB key nonce 64 text).map u8b) := by
      have := hcv.rd; rwa [hxl] at this
    have htr : Rd [cl b12 ((vouchB key nonce more (xorB key nonce 64 text)).map u8b).toArray 178] 1 (.slice (some ⟨b12, 0, none⟩) 16 16) 16 ((vouchB key nonce more (xorB key nonce 64 text)).map u8b) :=
      Rd.cl (o := 0) .here (by simp [hvl]) (by simp [hvl]) (by simp; exact List.take_of_length_le (by simp [hvl]))
    refine Ct.o ?_
    refine Zij ([]) [] (.q 0 (.q 1 (.q 3 (.e 2 false (.e 4 false (.q 5 (.q 6 .nil))))))) (by kernel_rfl) (by kernel_rfl) (Imp.arr Arr.stop) ?_
    refine W2 ?_
    refine Zim rfl (Zmy (h := 16) rfl rfl) ?_
    refine Ziq rfl ?_
    refine Zia rfl rfl qH (hcr.imp (Imp.arr qV)) qN (by omega) qS ?_; intro a1 c1
    refine Zg3 ⟨(fun hh => Bool.noConfusion hh), ?_⟩
    refine Ziq rfl ?_
    refine Zia rfl rfl qH (htr.imp (Imp.arr qV)) qN (by omega) qS ?_; intro a2 c2
    refine Zg3 ⟨(fun hh => Bool.noConfusion hh), ?_⟩
    refine W3 ?_
    refine Ct.o ?_
    have e1 : [] ++ (xorB key nonce 64 text).map u8b ++ (vouchB key nonce more (xorB key nonce 64 text)).map u8b = (sealB key nonce more text).map u8b := by unfold sealB; simp
    have e2 : 0 + text.length + 16 = (sealB key nonce more text).length := by rw [sealB_len]; omega
    rw [e1, e2]
    refine rx2 (Zhc rfl (Zg9 rfl (Zg7))) ?_
    exact ⟨_, ⟨a2, c2, rfl, rfl⟩, qI⟩
end Go.Sl

/- seal: look, Open, Peek, Nonce, walked. -/
set_option maxHeartbeats 4000000
set_option maxRecDepth 10000
set_option linter.unusedVariables false
set_option linter.unusedSimpArgs false
namespace Go.Sl
open Go Go.Proofs
attribute [local irreducible] pt pur ex all den denOps denS xOps xC cX CX xthen xblk xcut xloop xng retX resX Calls PV Rd Con
attribute [local irreducible] code blockB ksB xorB vouchB leB
/-- What look and Peek answer: the text, the mask, the error. -/
def lookR (key nonce more box : List Byte) : List Byte × BitVec 64 × Nat :=
  if box.length < 16 then ([], 0#64, 4) else if 1048576 < more.length ∨ 1048576 < box.length - 16 then ([], 0#64, 3)
  else if rightB key nonce more box = true then (textB key nonce box, 18446744073709551615#64, 0) else (List.replicate (box.length - 16) 0#8, 0#64, 0)
theorem look_x {L : List Asrt} (key nonce : List Byte) (hk : key.length = 32) (hn : nonce.length = 12) {vm vb : Value} {more box : List Byte} (hm : Bs L vm more) (hb : Bs L vb box) (hml : more.length ≤ 140737488351232) (hbl : box.length ≤ 140737488351232) :
    Con Tryz.prog 103 [.agg (key.map u8b).toArray, .agg (nonce.map u8b).toArray, vm, vb] L (fun r M => ∃ a c, r = .tuple #[.slice a (lookR key nonce more box).1.length c, u64b (lookR key nonce more box).2.1, nvv (lookR key nonce more box).2.2] ∧ M = own 5 1 (.slice a (lookR key nonce more box).1.length c) (lookR key nonce more box).1.length ((lookR key nonce more box).1.map u8b) :: L) := by
  refine Con.get (fun w0 w F H => hm.sh _ _ _ H) ?_
  rintro ⟨ma, mc, rfl, hmc, hmcm⟩
  refine Con.get (fun w0 w F H => hb.sh _ _ _ H) ?_
  rintro ⟨ba, bc, rfl, hbc, hbcm⟩
  by_cases h16 : box.length < 16
  · have e : lookR key nonce more box = ([], 0#64, 4) := if_pos h16
    rw [e]
    refine fn_x Tryz.func103 rfl rfl rfl Tryz.mixed (by kernel_rfl) ?_
    intro w0
    refine Y1 ?_
    refine Zh5 rfl ?_; intro b4
    refine Zh5 rfl ?_; intro b5
    refine V4 ?_
    refine Zno Tryz.mixed ?_
    refine Y3 ?_
    refine Zhg (Zbh (b := 16) rfl rfl (by omega)) ?_
    refine Y4 ?_
    refine Zhg (Zbn (b := 0) rfl rfl) ?_
    refine V1 ?_
    refine Zgg rfl (fun h => ?_) (fun h => absurd h (by omega))
    refine V5 ?_
    refine rx3 (Zhc rfl (Zg9 rfl (Zg9 rfl (Zg7)))) ?_
    exact ⟨_, ⟨none, 0, rfl, rfl⟩, (Imp.arr (N := L) qV).trans Imp.own_nil⟩
  by_cases hlong : 1048576 < more.length ∨ 1048576 < box.length - 16
  · have e : lookR key nonce more box = ([], 0#64, 3) := by unfold lookR; rw [if_neg h16, if_pos hlong]
    rw [e]
    refine fn_x Tryz.func103 rfl rfl rfl Tryz.mixed (by kernel_rfl) ?_
    intro w0
    refine Y1 ?_
    refine Zh5 rfl ?_; intro b4
    refine Zh5 rfl ?_; intro b5
    refine V4 ?_
    refine Zno Tryz.mixed ?_
    refine Y9 ?_
    refine Zhn 21 rfl (decide_eq_false (by omega)) ?_
    refine V2 ?_
    by_cases h1 : 1048576 < more.length
    · refine Y4 ?_
      refine Zhm 24 rfl (decide_eq_true (h1)) ?_
      refine V11 ?_
      refine rx3 (Zhc rfl (Zg9 rfl (Zg9 rfl (Zg7)))) ?_
      exact ⟨_, ⟨none, 0, rfl, rfl⟩, (Imp.arr (N := L) qV).trans Imp.own_nil⟩
    · refine Y4 ?_
      refine Zhn 24 rfl (decide_eq_false (h1)) ?_
      refine Y3 ?_
      refine Zhm 27 rfl (decide_eq_true ((hlong.resolve_left h1))) ?_
      refine V8 ?_
      refine rx3 (Zhc rfl (Zg9 rfl (Zg9 rfl (Zg7)))) ?_
      exact ⟨_, ⟨none, 0, rfl, rfl⟩, (Imp.arr (N := L) qV).trans Imp.own_nil⟩
  have h1 : ¬ 1048576 < more.length := fun h => hlong (.inl h)
  have h2 : ¬ 1048576 < box.length - 16 := fun h => hlong (.inr h)
  have hcl : (coverB box).length = box.length - 16 := by simp [coverB]
  have htl : (tagB box).length = 16 := by simp [tagB]; omega
  have hvl := vouchB_len key nonce more (coverB box)
  have hxl := textB_len key nonce box
  refine Con.get (fun w0 w F H => hb.some (by omega) H) ?_
  rintro ⟨b0, o0, rfl⟩
  have hcv : Bs L (.slice (some ⟨b0, o0, none⟩) (box.length - 16) bc) (coverB box) := hb.take (by omega)
  have htg : Bs L (.slice (some ⟨b0, o0 + (box.length - 16), none⟩) (box.length - (box.length - 16)) (bc - (box.length - 16))) (tagB box) := bs_drop hb (by omega) (by omega)
  refine fn_x Tryz.func103 rfl rfl rfl Tryz.mixed (by kernel_rfl) ?_
  intro w0
  refine Y1 ?_
  refine Zh5 rfl ?_; intro b4
  refine Zh5 rfl ?_; intro b5
  refine V4 ?_
  refine Zno Tryz.mixed ?_
  refine Y9 ?_
  refine Zhn 21 rfl (decide_eq_false (by omega)) ?_
  refine Y6 ?_
  refine Zhn 24 rfl (decide_eq_false (h1)) ?_
  refine Y3 ?_
  refine Zhn 27 rfl (decide_eq_false (h2)) ?_
  refine V3 ?_
  refine Zij (_) [1, 6, 7] (.q 2 (.q 3 (.q 4 (.q 5 (.r 0 (.r 1 (.e 6 true (.a 7 (.e 8 false .nil))))))))) (by kernel_rfl) (by kernel_rfl) (Imp.refl _) ?_
  refine W3 ?_
  refine Zim rfl (Zm0 (h := box.length - 16) rfl rfl (by omega)) ?_
  refine W2 ?_
  refine Ziq rfl ?_
  refine Zh8 rfl (by kernel_rfl) (vouch_x (L := L) key nonce hk hn hm hcv (by omega) (by omega)) rfl qT ?_
  rintro _ _ ⟨rfl, rfl⟩
  refine Y1 ?_
  refine Zg3 ⟨fun _ => Imp.arr qV, ?_⟩
  refine Zir rfl (cs := ((List.replicate 16 0#8).map u8b).toArray) rfl ?_; intro b12
  refine Ziq rfl ?_
  first|refine Zhy rfl rfl qR qZ qN qZ ?_|refine Zhx rfl rfl qR qZ qN qZ rfl ?_
  refine Zg3 ⟨(fun hh => Bool.noConfusion hh), ?_⟩
  refine Zik ?_
  refine Ct.o ?_
  have hva := bs_full (M := cl b12 ((vouchB key nonce more (coverB box)).map u8b).toArray 178 :: L) (n := 16) .here hvl (by omega)
  refine Ct.o ?_
  refine Zij ([]) [] (.q 0 (.q 1 (.q 2 (.q 3 (.e 4 false (.q 5 .nil)))))) (by kernel_rfl) (by kernel_rfl) (Imp.arr Arr.stop) ?_
  refine Zim rfl (Zmy (h := 16) rfl rfl) ?_
  refine W2 ?_
  first|refine Zim rfl (Zna (l := box.length - 16) (h := box.length) rfl qB qB) ?_|refine Zim rfl (Zmz (l := box.length - 16) (h := box.length) rfl qB qB) ?_
  refine Ziq rfl ?_
  refine Zh8 rfl (by kernel_rfl) (same_x (L := cl b12 ((vouchB key nonce more (coverB box)).map u8b).toArray 178 :: L) hva (htg.imp Imp.tail) (by omega)) rfl qT ?_
  rintro _ _ ⟨rfl, rfl⟩
  refine Y1 ?_
  refine Zg3 ⟨(fun hh => Bool.noConfusion hh), ?_⟩
  refine W2 ?_
  refine Ct.o ?_
  refine Zij (_) [1] (.q 2 (.q 3 (.q 4 (.r 0 (.r 1 (.e 5 false (.q 6 (.q 7 (.q 8 (.q 9 (.q 10 .nil))))))))))) (by kernel_rfl) (by kernel_rfl) (Imp.refl _) ?_
  refine W2 ?_
  refine Zim rfl (Zm0 (h := box.length - 16) rfl rfl (by omega)) ?_
  refine W2 ?_
  refine Ziq rfl ?_
  refine Zh8 rfl (by kernel_rfl) (xor_x (L := L) key nonce hk hn hcv (by omega)) rfl qT ?_
  rintro _ _ ⟨g, rfl, rfl⟩
  refine Y1 ?_
  refine Zg3 ⟨(fun hh => Bool.noConfusion hh), ?_⟩
  refine W6 ?_
  refine Ct.o ?_
  rw [show xorB key nonce 64 (coverB box) = textB key nonce box from rfl, hcl]
  refine Y3 ?_
  refine Zhn 51 rfl (decide_eq_false ((fun h => h rfl))) ?_
  refine V2 ?_
  by_cases hr : vouchB key nonce more (coverB box) = tagB box
  · have e : lookR key nonce more box = (textB key nonce box, 18446744073709551615#64, 0) := by unfold lookR; rw [if_neg h16, if_neg hlong, if_pos (show rightB key nonce more box = true from decide_eq_true hr)]
    rw [e, if_pos hr]
    refine Y2 ?_
    refine Zhg (Zlo (y := 0#64) rfl rfl) ?_
    refine Zhm 53 rfl (decide_eq_true ((by decide))) ?_
    refine V9 ?_
    refine rx3 (Zhc rfl (Zg9 rfl (Zg9 rfl (Zg7)))) ?_
    refine ⟨_, ⟨some ⟨g, 0, none⟩, box.length - 16, by dsimp only; rw [hxl]; rfl, rfl⟩, ?_⟩
    dsimp only
    rw [hxl]
    exact (Imp.arr (N := cl g ((textB key nonce box).map u8b).toArray 5 :: L) qV).trans (Imp.own_mk (by omega) (by omega) (by simp [hxl]) (by simp; exact List.take_of_length_le (by simp [hxl])))
  · have e : lookR key nonce more box = (List.replicate (box.length - 16) 0#8, 0#64, 0) := by unfold lookR; rw [if_neg h16, if_neg hlong, if_neg (show ¬ rightB key nonce more box = true from fun h => hr (of_decide_eq_true h))]
    rw [e, if_neg hr]
    refine Y2 ?_
    refine Zhg (Zlo (y := 0#64) rfl rfl) ?_
    refine Zhn 53 rfl (decide_eq_false ((fun h => h rfl))) ?_
    refine V7 ?_
    refine Zgo [(16, 16), (58, 64)] (by kernel_rfl) (fun i : Nat => i ≤ box.length - 16) (fun i => cl g ((List.replicate i 0#8 ++ (textB key nonce box).drop i).map u8b).toArray 5 :: L) (fun i => [(58, nvv i)]) (fun i => box.length - 16 - i) 0 (by omega) (by show Imp _ (cl g (([] ++ textB key nonce box).map u8b).toArray _ :: L); rw [List.nil_append]; exact qI) ⟨rfl, trivial⟩ ?_
    intro i u hi
    have hzl : (List.replicate i 0#8 ++ (textB key nonce box).drop i).length = box.length - 16 := by simp [hxl]; omega
    refine V3 ?_
    refine Zgg rfl (fun hB => ?_) (fun hB => ?_)
    · refine Y8 ?_
      refine Zhs rfl (v := u8b 0#8) rfl rfl qR qZ (setL (f := u8b)) ?_
      refine V1 ?_
      have e2 : (List.replicate i 0#8 ++ (textB key nonce box).drop i).set i 0#8 = List.replicate (i + 1) 0#8 ++ (textB key nonce box).drop (i + 1) := by
        rw [List.set_append_right _ _ (by simp), List.length_replicate, Nat.sub_self, List.drop_eq_getElem_cons (by omega), List.set_cons_zero, List.replicate_succ', List.append_assoc]; rfl
      rw [e2]
      refine V4 ?_
      exact Zgl (i + 1) qO (by omega) qI ⟨rfl, trivial⟩
    · have hie : i = box.length - 16 := by omega
      subst hie
      rw [List.drop_of_length_le (by omega), List.append_nil]
      refine V7 ?_
      refine rx3 (Zhc rfl (Zg9 rfl (Zg9 rfl (Zg7)))) ?_
      refine ⟨_, ⟨some ⟨g, 0, none⟩, box.length - 16, by dsimp only; rw [List.length_replicate]; rfl, rfl⟩, ?_⟩
      dsimp only
      rw [List.length_replicate]
      exact (Imp.arr (N := cl g ((List.replicate (box.length - 16) 0#8).map u8b).toArray 5 :: L) qV).trans (Imp.own_mk (by omega) (by omega) (by simp) (by simp))
/-- What Open answers. -/
def openR (key nonce more box : List Byte) : List Byte × Nat :=
  if box.length < 16 then ([], 4) else if 1048576 < more.length ∨ 1048576 < box.length - 16 then ([], 3)
  else if rightB key nonce more box = true then (textB key nonce box, 0) else ([], 70)
theorem open_x {L : List Asrt} (key nonce : List Byte) (hk : key.length = 32) (hn : nonce.length = 12) {vm vb : Value} {more box : List Byte} (hm : Bs L vm more) (hb : Bs L vb box) (hml : more.length ≤ 140737488351232) (hbl : box.length ≤ 140737488351232) :
    Con Tryz.prog 81 [.agg (key.map u8b).toArray, .agg (nonce.map u8b).toArray, vm, vb] L (fun r M => ∃ a c, r = .tuple #[.slice a (openR key nonce more box).1.length c, nvv (openR key nonce more box).2] ∧ M = own 5 1 (.slice a (openR key nonce more box).1.length c) (openR key nonce more box).1.length ((openR key nonce more box).1.map u8b) :: L) := by
  refine Con.get (fun w0 w F H => hm.sh _ _ _ H) ?_
  rintro ⟨ma, mc, rfl, hmc, hmcm⟩
  refine Con.get (fun w0 w F H => hb.sh _ _ _ H) ?_
  rintro ⟨ba, bc, rfl, hbc, hbcm⟩
  refine fn_x Tryz.func81 rfl rfl rfl Tryz.mixed (by kernel_rfl) ?_
  intro w0
  refine Y1 ?_
  refine Zh5 rfl ?_; intro b4
  refine Zh5 rfl ?_; intro b5
  refine Y8 ?_
  refine Zh8 rfl (by kernel_rfl) (look_x (L := L) key nonce hk hn hm hb hml hbl) rfl qT ?_
  rintro _ _ ⟨xa, xc, rfl, rfl⟩
  refine V9 ?_
  have drop0 : ∀ N, Imp (own 5 1 (.slice xa (lookR key nonce more box).1.length xc) (lookR key nonce more box).1.length ((lookR key nonce more box).1.map u8b) :: N) (own 5 1 (.slice none 0 0) 0 [] :: N) := fun N => Imp.tail.trans Imp.own_nil
  unfold lookR openR
  by_cases h16 : box.length < 16
  · simp only [if_pos h16]
    refine Y3 ?_
    refine Zhm 23 rfl (decide_eq_true (by decide)) ?_
    refine V7 ?_
    refine rx2 (Zhc rfl (Zg9 rfl (Zg7))) ?_
    exact ⟨_, ⟨none, 0, rfl, rfl⟩, (Imp.arr (N := L) qV).trans Imp.own_nil⟩
  · simp only [if_neg h16]
    by_cases hlong : 1048576 < more.length ∨ 1048576 < box.length - 16
    · simp only [if_pos hlong]
      refine Y3 ?_
      refine Zhm 23 rfl (decide_eq_true (by decide)) ?_
      refine V7 ?_
      refine rx2 (Zhc rfl (Zg9 rfl (Zg7))) ?_
      exact ⟨_, ⟨none, 0, rfl, rfl⟩, (Imp.arr (N := L) qV).trans Imp.own_nil⟩
    · simp only [if_neg hlong]
      by_cases hr : rightB key nonce more box = true
      · simp only [if_pos hr]
        refine Y3 ?_
        refine Zhn 23 rfl (decide_eq_false (by decide)) ?_
        refine Y4 ?_
        refine Zhg (Zln (y := 0#64) rfl rfl) ?_
        refine Zhn 26 rfl (decide_eq_false (by decide)) ?_
        refine V7 ?_
        refine rx2 (Zhc rfl (Zg9 rfl (Zg7))) ?_
        exact ⟨_, ⟨xa, xc, rfl, rfl⟩, qI⟩
      · simp only [if_neg hr]
        refine Y3 ?_
        refine Zhn 23 rfl (decide_eq_false (by decide)) ?_
        refine Y4 ?_
        refine Zhg (Zln (y := 0#64) rfl rfl) ?_
        refine Zhm 26 rfl (decide_eq_true (by decide)) ?_
        refine V6 ?_
        refine rx2 (Zhc rfl (Zg9 rfl (Zg7))) ?_
        exact ⟨_, ⟨none, 0, rfl, rfl⟩, (Imp.arr (N := L) qV).trans Imp.own_nil⟩
end Go.Sl

/- page: Seal, Open, walked. -/
set_option maxHeartbeats 4000000
set_option maxRecDepth 10000
set_option linter.unusedVariables false
set_option linter.unusedSimpArgs false
namespace Go.Sl
open Go Go.Proofs
attribute [local irreducible] pt pur ex all den denOps denS xOps xC cX CX xthen xblk xcut xloop xng retX resX Calls PV Rd Con
attribute [local irreducible] code blockB ksB xorB vouchB leB headB moreB sealB rightB textB
theorem pgSeal_x {L : List Asrt} (key : List Byte) (hk : key.length = 32) (p : Plc) {vt : Value} {text : List Byte} (ht : Bs L vt text) (htl : text.length ≤ 140737488351232) :
    Con Tryz.prog 88 [.agg (key.map u8b).toArray, .agg (plc p), vt] L (fun r M => ∃ a c, r = .tuple #[.slice a (pgSealR key p text).1.length c, nvv (pgSealR key p text).2] ∧ M = own 5 1 (.slice a (pgSealR key p text).1.length c) (pgSealR key p text).1.length ((pgSealR key p text).1.map u8b) :: L) := by
  refine Con.get (fun w0 w F H => ht.sh _ _ _ H) ?_
  rintro ⟨ta, tc, rfl, htc, htcm⟩
  by_cases hlong : 4096 < text.length
  · have e : pgSealR key p text = ([], 3) := if_pos hlong
    rw [e]
    refine fn_x Tryz.func88 rfl rfl rfl Tryz.mixed (by kernel_rfl) ?_
    intro w0
    refine Y1 ?_
    refine Zh5 rfl ?_; intro b3
    refine Zh5 rfl ?_; intro b4
    refine Y7 ?_
    refine Zhm 14 rfl (decide_eq_true (hlong)) ?_
    refine V6 ?_
    refine rx2 (Zhc rfl (Zg9 rfl (Zg7))) ?_
    exact ⟨_, ⟨none, 0, rfl, rfl⟩, (Imp.arr (N := L) qV).trans Imp.own_nil⟩
  · have e : pgSealR key p text = (pgSealB key p text, 0) := if_neg hlong
    rw [e]
    have hml := moreB_len p
    have hhl := headB_len p
    have hsl := sealB_len key (headB p) (moreB p) text
    have esr : sealR key (headB p) (moreB p) text = (sealB key (headB p) (moreB p) text, 0) := if_neg (by omega)
    have hs := fun ma mc => seal_x (L := own 5 1 (.slice ma (moreB p).length mc) (moreB p).length ((moreB p).map u8b) :: L) key (headB p) hk hhl (Bs.own .here) (ht.imp Imp.tail) (by omega) (by omega)
    rw [esr] at hs
    dsimp only at hs
    refine fn_x Tryz.func88 rfl rfl rfl Tryz.mixed (by kernel_rfl) ?_
    intro w0
    refine Y1 ?_
    refine Zh5 rfl ?_; intro b3
    refine Zh5 rfl ?_; intro b4
    refine Y7 ?_
    refine Zhn 14 rfl (decide_eq_false (hlong)) ?_
    refine Y4 ?_
    refine Zh8 rfl (by kernel_rfl) (pghead_x p) rfl qT ?_
    rintro _ _ ⟨rfl, rfl⟩
    refine Y1 ?_
    refine Zhz (cs := ((List.replicate 12 0#8).map u8b).toArray) rfl ?_; intro b8
    first|refine Zhy rfl rfl qR qZ qN qZ ?_|refine Zhx rfl rfl qR qZ qN qZ rfl ?_
    refine V1 ?_
    refine Zij ([cl b3 (key.map u8b).toArray 23, cl b8 ((headB p).map u8b).toArray 63, cl b4 (plc p) 108]) [1, 2, 3] (.q 4 (.r 0 (.r 1 (.r 2 (.e 3 true (.e 5 false (.q 6 (.q 7 (.q 8 (.q 9 (.q 10 .nil))))))))))) (by kernel_rfl) (by kernel_rfl) (Imp.arr qV) ?_
    refine W4 ?_
    refine Ziq rfl ?_
    refine Zh8 rfl (by kernel_rfl) (pgmore_x p) rfl qT ?_
    rintro _ _ ⟨ma, mc, rfl, rfl⟩
    refine Y1 ?_
    refine Zg3 ⟨fun _ => Imp.arr qV, ?_⟩
    refine Ziq rfl ?_
    refine Zh8 rfl (by kernel_rfl) (hs ma mc) rfl qT ?_
    rintro _ _ ⟨sa, sc, rfl, rfl⟩
    refine Y1 ?_
    refine Zg3 ⟨(fun hh => Bool.noConfusion hh), ?_⟩
    refine W6 ?_
    refine Y3 ?_
    refine Zhn 27 rfl (decide_eq_false ((fun h => h rfl))) ?_
    refine Y5 ?_
    first|refine Zhg (Zma (a := 12) rfl rfl) ?_|refine Zhg (Zbg rfl rfl) ?_
    refine Zm3 (f := u8b) (a := 0#8) (len := 0) rfl rfl rfl qS qS qS ?_; intro b32
    refine V2 ?_
    refine Zgp (Imp.own_mk (n := 0) (cap := 12 + (sealB key (headB p) (moreB p) text).length) (size := 1) (xs := []) (by omega) (by omega) (by simp) (by simp)) ?_
    have hhr : Rd [cl b8 ((headB p).map u8b).toArray 63] 1 (.slice (some ⟨b8, 0, none⟩) 12 12) 12 ((headB p).map u8b) :=
      Rd.cl (o := 0) .here (by simp [hhl]) (by simp [hhl]) (by simp; exact List.take_of_length_le (by simp [hhl]))
    have hsr : Rd [own 5 1 (.slice sa (sealB key (headB p) (moreB p) text).length sc) (sealB key (headB p) (moreB p) text).length ((sealB key (headB p) (moreB p) text).map u8b)] 1 (.slice sa (sealB key (headB p) (moreB p) text).length sc) (sealB key (headB p) (moreB p) text).length ((sealB key (headB p) (moreB p) text).map u8b) := Rd.own .here
    refine Y2 ?_
    refine Zhg (Zmy (h := 12) rfl rfl) ?_
    refine Zia rfl rfl qH (hhr.imp (Imp.arr qV)) qN (by omega) qS ?_; intro a1 c1
    refine Y1 ?_
    refine Zia rfl rfl qH (hsr.imp (Imp.arr qV)) qN (by omega) qS ?_; intro a2 c2
    refine V3 ?_
    have e1 : [] ++ (headB p).map u8b ++ (sealB key (headB p) (moreB p) text).map u8b = (pgSealB key p text).map u8b := by unfold pgSealB; simp
    have e2 : 0 + 12 + (sealB key (headB p) (moreB p) text).length = (pgSealB key p text).length := by rw [pgSealB_len]; omega
    rw [e1, e2]
    refine rx2 (Zhc rfl (Zg9 rfl (Zg7))) ?_
    exact ⟨_, ⟨a2, c2, rfl, rfl⟩, qI⟩
theorem pgOpen_x {L : List Asrt} (key : List Byte) (hk : key.length = 32) (p : Plc) {vb : Value} {box : List Byte} (hb : Bs L vb box) (hbl : box.length ≤ 140737488351232) :
    Con Tryz.prog 57 [.agg (key.map u8b).toArray, .agg (plc p), vb] L (fun r M => ∃ a c, r = .tuple #[.slice a (pgOpenR key p box).1.length c, nvv (pgOpenR key p box).2] ∧ M = own 5 1 (.slice a (pgOpenR key p box).1.length c) (pgOpenR key p box).1.length ((pgOpenR key p box).1.map u8b) :: L) := by
  refine Con.get (fun w0 w F H => hb.sh _ _ _ H) ?_
  rintro ⟨ba, bc, rfl, hbc, hbcm⟩
  have eno : ¬ pgFits p box → pgOpenR key p box = ([], 120) := fun h => if_neg (fun h2 => h h2.1)
  by_cases hlong : 4124 < box.length
  · rw [eno (fun h => by have := h.2.1; omega)]
    refine fn_x Tryz.func57 rfl rfl rfl Tryz.mixed (by kernel_rfl) ?_
    intro w0
    refine Y1 ?_
    refine Zh5 rfl ?_; intro b3
    refine Zh5 rfl ?_; intro b4
    refine Y7 ?_
    refine Zhm 14 rfl (decide_eq_true (hlong)) ?_
    refine V6 ?_
    refine rx2 (Zhc rfl (Zg9 rfl (Zg7))) ?_
    exact ⟨_, ⟨none, 0, rfl, rfl⟩, (Imp.arr (N := L) qV).trans Imp.own_nil⟩
  by_cases h28 : box.length < 28
  · rw [eno (fun h => by have := h.1; omega)]
    have hh := pgHead_x hb hbl
    rw [show pgHeadR box = (0#64, 0#32, 20) from if_pos h28] at hh
    dsimp only at hh
    refine fn_x Tryz.func57 rfl rfl rfl Tryz.mixed (by kernel_rfl) ?_
    intro w0
    refine Y1 ?_
    refine Zh5 rfl ?_; intro b3
    refine Zh5 rfl ?_; intro b4
    refine Y7 ?_
    refine Zhn 14 rfl (decide_eq_false (hlong)) ?_
    refine Y4 ?_
    refine Zh8 rfl (by kernel_rfl) (hh) rfl qT ?_
    rintro _ _ ⟨rfl, rfl⟩
    refine Y12 ?_
    refine Zhm 22 rfl (decide_eq_true ((by decide))) ?_
    refine Y8 ?_
    first|refine Y0 ?_|(refine Zhh rfl ?_; (refine Zhg (Zdm (cs := #[.int .u64 _, .int .u32 _, .int .u32 _, .int .u32 _]) rfl) ?_))
    first|refine Y0 ?_|(refine Zhh rfl ?_; (refine Zhg (pv_neq_UNKNOWN_struct) ?_))
    refine V7 ?_
    refine rx2 (Zhc rfl (Zg9 rfl (Zg7))) ?_
    exact ⟨_, ⟨none, 0, rfl, rfl⟩, (Imp.arr (N := L) qV).trans Imp.own_nil⟩
  have hh := pgHead_x hb hbl
  rw [show pgHeadR box = (lowB 64 (box.take 8), lowB 32 ((box.drop 8).take 4), 0) from if_neg h28] at hh
  dsimp only at hh
  have hhi := head_is p box (by omega)
  generalize lowB 64 (box.take 8) = hr at hh hhi
  generalize lowB 32 ((box.drop 8).take 4) = hc at hh hhi
  by_cases hpl : p = ⟨hr, hc, p.page, p.version⟩
  · have hfit : pgFits p box := ⟨by omega, by omega, hhi.2 (by rw [hpl]; exact ⟨rfl, rfl⟩)⟩
    refine Con.get (fun w0 w F H => hb.some (by omega) H) ?_
    rintro ⟨b0, o0, rfl⟩
    have hml := moreB_len p
    have hdl : (box.drop 12).length = box.length - 12 := List.length_drop
    have hdb : Bs L (.slice (some ⟨b0, o0 + 12, none⟩) (box.length - 12) (bc - 12)) (box.drop 12) := bs_drop hb (by omega) (by omega)
    have ho := fun ma mc => open_x (L := own 5 1 (.slice ma (moreB p).length mc) (moreB p).length ((moreB p).map u8b) :: L) key (headB p) hk (headB_len p) (Bs.own .here) (hdb.imp Imp.tail) (by omega) (by omega)
    by_cases hr2 : rightB key (headB p) (moreB p) (box.drop 12) = true
    · have e : pgOpenR key p box = (textB key (headB p) (box.drop 12), 0) := if_pos ⟨hfit, hr2⟩
      have eo : openR key (headB p) (moreB p) (box.drop 12) = (textB key (headB p) (box.drop 12), 0) := by unfold openR; rw [if_neg (by omega), if_neg (by omega), if_pos hr2]
      rw [e]
      rw [eo] at ho
      dsimp only at ho
      refine fn_x Tryz.func57 rfl rfl rfl Tryz.mixed (by kernel_rfl) ?_
      intro w0
      refine Y1 ?_
      refine Zh5 rfl ?_; intro b3
      refine Zh5 rfl ?_; intro b4
      refine Y7 ?_
      refine Zhn 14 rfl (decide_eq_false (hlong)) ?_
      refine Y4 ?_
      refine Zh8 rfl (by kernel_rfl) (hh) rfl qT ?_
      rintro _ _ ⟨rfl, rfl⟩
      refine Y12 ?_
      refine Zhn 22 rfl (decide_eq_false ((fun h => h rfl))) ?_
      refine Y8 ?_
      first|refine Y0 ?_|(refine Zhh rfl ?_; (refine Zhg (Zdm (cs := #[.int .u64 _, .int .u32 _, .int .u32 _, .int .u32 _]) rfl) ?_))
      first|refine Y0 ?_|(refine Zhh rfl ?_; (refine Zhg (pv_neq_plc p ⟨hr, hc, p.page, p.version⟩ rfl rfl) ?_))
      refine Zhn 32 rfl (decide_eq_false ((fun h => h hpl))) ?_
      refine V3 ?_
      refine Zij ([cl b3 (key.map u8b).toArray 23, cl b4 (plc p) 108]) [1, 2, 3, 4] (.q 5 (.q 6 (.r 0 (.r 1 (.r 3 (.e 2 true (.e 4 true (.e 7 false (.q 8 (.q 9 (.q 10 (.q 11 (.q 12 .nil))))))))))))) (by kernel_rfl) (by kernel_rfl) (Imp.arr qV) ?_
      refine W1 ?_
      first|refine Zim rfl (Zna (l := 12) (h := box.length) rfl qB qB) ?_|refine Zim rfl (Zmz (l := 12) (h := box.length) rfl qB qB) ?_
      refine W3 ?_
      refine Ziq rfl ?_
      refine Zh8 rfl (by kernel_rfl) (pghead_x p) rfl qT ?_
      rintro _ _ ⟨rfl, rfl⟩
      refine Y1 ?_
      refine Zg3 ⟨fun _ => Imp.arr qV, ?_⟩
      refine Ziq rfl ?_
      refine Zh8 rfl (by kernel_rfl) (pgmore_x p) rfl qT ?_
      rintro _ _ ⟨ma, mc, rfl, rfl⟩
      refine Y1 ?_
      refine Zg3 ⟨fun _ => Imp.arr qV, ?_⟩
      refine Ziq rfl ?_
      refine Zh8 rfl (by kernel_rfl) (ho ma mc) rfl qT ?_
      rintro _ _ ⟨xa, xc, rfl, rfl⟩
      refine Y1 ?_
      refine Zg3 ⟨(fun hh => Bool.noConfusion hh), ?_⟩
      refine W6 ?_
      refine Y3 ?_
      refine Zh8 rfl (by kernel_rfl) (fails_x 0) rfl qT ?_
      rintro _ _ ⟨rfl, rfl⟩
      refine V8 ?_
      refine rx2 (Zhc rfl (Zg9 rfl (Zg7))) ?_
      exact ⟨_, ⟨xa, xc, rfl, rfl⟩, qI⟩
    · have e : pgOpenR key p box = ([], 120) := if_neg (fun h => hr2 h.2)
      have eo : openR key (headB p) (moreB p) (box.drop 12) = ([], 70) := by unfold openR; rw [if_neg (by omega), if_neg (by omega), if_neg hr2]
      rw [e]
      rw [eo] at ho
      dsimp only at ho
      refine fn_x Tryz.func57 rfl rfl rfl Tryz.mixed (by kernel_rfl) ?_
      intro w0
      refine Y1 ?_
      refine Zh5 rfl ?_; intro b3
      refine Zh5 rfl ?_; intro b4
      refine Y7 ?_
      refine Zhn 14 rfl (decide_eq_false (hlong)) ?_
      refine Y4 ?_
      refine Zh8 rfl (by kernel_rfl) (hh) rfl qT ?_
      rintro _ _ ⟨rfl, rfl⟩
      refine Y12 ?_
      refine Zhn 22 rfl (decide_eq_false ((fun h => h rfl))) ?_
      refine Y8 ?_
      first|refine Y0 ?_|(refine Zhh rfl ?_; (refine Zhg (Zdm (cs := #[.int .u64 _, .int .u32 _, .int .u32 _, .int .u32 _]) rfl) ?_))
      first|refine Y0 ?_|(refine Zhh rfl ?_; (refine Zhg (pv_neq_plc p ⟨hr, hc, p.page, p.version⟩ rfl rfl) ?_))
      refine Zhn 32 rfl (decide_eq_false ((fun h => h hpl))) ?_
      refine V3 ?_
      refine Zij ([cl b3 (key.map u8b).toArray 23, cl b4 (plc p) 108]) [1, 2, 3, 4] (.q 5 (.q 6 (.r 0 (.r 1 (.r 3 (.e 2 true (.e 4 true (.e 7 false (.q 8 (.q 9 (.q 10 (.q 11 (.q 12 .nil))))))))))))) (by kernel_rfl) (by kernel_rfl) (Imp.arr qV) ?_
      refine W1 ?_
      first|refine Zim rfl (Zna (l := 12) (h := box.length) rfl qB qB) ?_|refine Zim rfl (Zmz (l := 12) (h := box.length) rfl qB qB) ?_
      refine W3 ?_
      refine Ziq rfl ?_
      refine Zh8 rfl (by kernel_rfl) (pghead_x p) rfl qT ?_
      rintro _ _ ⟨rfl, rfl⟩
      refine Y1 ?_
      refine Zg3 ⟨fun _ => Imp.arr qV, ?_⟩
      refine Ziq rfl ?_
      refine Zh8 rfl (by kernel_rfl) (pgmore_x p) rfl qT ?_
      rintro _ _ ⟨ma, mc, rfl, rfl⟩
      refine Y1 ?_
      refine Zg3 ⟨fun _ => Imp.arr qV, ?_⟩
      refine Ziq rfl ?_
      refine Zh8 rfl (by kernel_rfl) (ho ma mc) rfl qT ?_
      rintro _ _ ⟨xa, xc, rfl, rfl⟩
      refine Y1 ?_
      refine Zg3 ⟨(fun hh => Bool.noConfusion hh), ?_⟩
      refine W6 ?_
      refine Y3 ?_
      refine Zh8 rfl (by kernel_rfl) (fails_x 70) rfl qT ?_
      rintro _ _ ⟨rfl, rfl⟩
      refine V7 ?_
      refine rx2 (Zhc rfl (Zg9 rfl (Zg7))) ?_
      exact ⟨_, ⟨none, 0, rfl, rfl⟩, (Imp.arr (N := L) qV).trans Imp.own_nil⟩
  · rw [eno (fun h => hpl (by
      obtain ⟨h1, h2⟩ := hhi.1 h.2.2
      rw [h1, h2]))]
    refine fn_x Tryz.func57 rfl rfl rfl Tryz.mixed (by kernel_rfl) ?_
    intro w0
    refine Y1 ?_
    refine Zh5 rfl ?_; intro b3
    refine Zh5 rfl ?_; intro b4
    refine Y7 ?_
    refine Zhn 14 rfl (decide_eq_false (hlong)) ?_
    refine Y4 ?_
    refine Zh8 rfl (by kernel_rfl) (hh) rfl qT ?_
    rintro _ _ ⟨rfl, rfl⟩
    refine Y12 ?_
    refine Zhn 22 rfl (decide_eq_false ((fun h => h rfl))) ?_
    refine Y8 ?_
    first|refine Y0 ?_|(refine Zhh rfl ?_; (refine Zhg (Zdm (cs := #[.int .u64 _, .int .u32 _, .int .u32 _, .int .u32 _]) rfl) ?_))
    first|refine Y0 ?_|(refine Zhh rfl ?_; (refine Zhg (pv_neq_plc p ⟨hr, hc, p.page, p.version⟩ rfl rfl) ?_))
    refine Zhm 32 rfl (decide_eq_true (hpl)) ?_
    refine V7 ?_
    refine rx2 (Zhc rfl (Zg9 rfl (Zg7))) ?_
    exact ⟨_, ⟨none, 0, rfl, rfl⟩, (Imp.arr (N := L) qV).trans Imp.own_nil⟩
end Go.Sl

/- pager: a pager as one piece; write, walked. -/
set_option maxHeartbeats 4000000
set_option maxRecDepth 10000
set_option linter.unusedVariables false
set_option linter.unusedSimpArgs false
namespace Go.Sl
open Go Go.Proofs
attribute [local irreducible] pt pur ex all den denOps denS xOps xC cX CX xthen xblk xcut xloop xng retX resX Calls PV Rd Con
attribute [local irreducible] hostA pcl pgSealB pgOpenR HostS.writeR HostS.readR
open PagerS (PS Over)
abbrev pgL (p : Nat) (s : PS) (c : PC) (l : List FV) : List Asrt := [cl p (pcl s c) 102, fmA c.bh (heldF l), fmA c.bl (lastF s.last), ownI c.oa c.oc (fpages l), star frA l]
structure PgOk (ph : Nat) (s : PS) (c : PC) (l : List FV) : Prop where
  ok : PagerS.Ok s
  ph : c.ph = ph
  held : s.held = l.map (·.1)
  n : c.n = (fpages l).length
def pgB (p ph : Nat) (s : PS) (t : PC × List FV) : Asrt := all (pur (PgOk ph s t.1 t.2) :: pgL p s t.1 t.2)
/-- A pager over the host at ph. -/
def pgA (p ph : Nat) (s : PS) : Asrt := ex (pgB p ph s)
section
variable {p ph : Nat} {s : PS} {L : List Asrt}
theorem pgA_mk {c : PC} {l : List FV} (h : PgOk ph s c l) : Imp (pgL p s c l ++ L) (pgA p ph s :: L) :=
  ((Imp.pur_mk h).trans (Imp.app (L := pur (PgOk ph s c l) :: pgL p s c l))).trans (Imp.head fun f h => by unfold pgA Sl.ex; exact Exists.intro (p := fun x => (pgB p ph s x).on f) (c, l) h)
theorem Con.pgA {F : FuncId} {args : List Value} {Φ : Value → List Asrt → Prop} (h : ∀ (c : PC) (l : List FV), PgOk ph s c l → Con Tryz.prog F args (pgL p s c l ++ L) Φ) : Con Tryz.prog F args (Sl.pgA p ph s :: L) Φ :=
  Con.ex fun t => Con.pre (Con.pur fun hk => h t.1 t.2 hk) (Imp.unapp (L := Sl.pur (PgOk ph s t.1 t.2) :: pgL p s t.1 t.2))
theorem x_pgA {w0 : World} {c : Code} {ρ : Env} {Q : XQ} (h : ∀ (t : PC) (l : List FV), PgOk ph s t l → xC Tryz.prog w0 c ρ (pgL p s t l ++ L) Q) : xC Tryz.prog w0 c ρ (pgA p ph s :: L) Q := by
  unfold pgA
  exact Zgr fun t => Zgs (L := pur (PgOk ph s t.1 t.2) :: pgL p s t.1 t.2) (Zgq fun hk => h t.1 t.2 hk)
end
theorem met_write (ph : Nat) : Met Tryz.prog 28 (hp ph) "Write" 213 (hp ph) := by intro w; kernel_rfl
theorem met_read (ph : Nat) : Met Tryz.prog 28 (hp ph) "Read" 210 (hp ph) := by intro w; kernel_rfl
theorem find_at {l : List FV} (hn : (fpages l).Nodup) {i : Nat} (hi : i < l.length) : (l.find? fun e => e.1.page == l[i].1.page) = some l[i] := by
  induction l generalizing i with
  | nil => simp at hi
  | cons x r ih =>
    rw [fpages, List.map_cons, List.nodup_cons] at hn
    cases i with
    | zero => simp
    | succ i =>
      have hi : i < r.length := by simpa using hi
      simp only [List.getElem_cons_succ]
      rw [List.find?_cons_of_neg (by
        simp only [beq_iff_eq]
        intro e
        exact hn.1 (e ▸ List.mem_map.2 ⟨r[i], List.getElem_mem hi, rfl⟩))]
      exact ih hn.2 hi
theorem heldF_at {l : List FV} (hn : (fpages l).Nodup) {i : Nat} (hi : i < l.length) : heldF l l[i].1.page = some (hp l[i].2.1) := by unfold heldF; rw [find_at hn hi]; rfl
theorem heldF_no {l : List FV} {n : Int} (h : n ∉ fpages l) : heldF l n = none := by
  unfold heldF
  rw [Option.map_eq_none_iff, List.find?_eq_none]
  intro e he
  simp only [beq_iff_eq]
  exact fun hh => h (hh ▸ List.mem_map.2 ⟨e, he, rfl⟩)
section
variable {ph : Nat} {s : PS} {c : PC} {l : List FV}
theorem PgOk.nodup (h : PgOk ph s c l) : (fpages l).Nodup := by
  have := h.ok.once
  unfold PagerS.numbers at this
  rw [h.held, List.map_map] at this
  exact this
theorem PgOk.fr (h : PgOk ph s c l) {i : Nat} (hi : i < l.length) : PagerS.frOf s l[i].1.page = some l[i].1 := by
  unfold PagerS.frOf
  rw [h.held, List.find?_map]
  have := find_at h.nodup hi
  simp only [Function.comp_def]
  rw [this]; rfl
theorem PgOk.none (h : PgOk ph s c l) {n : Int} (hn : n ∉ fpages l) : PagerS.frOf s n = none := by
  unfold PagerS.frOf
  rw [h.held, List.find?_eq_none]
  intro f hf
  obtain ⟨e, he, rfl⟩ := List.mem_map.1 hf
  simp only [beq_iff_eq]
  exact fun hh => hn (hh ▸ List.mem_map.2 ⟨e, he, rfl⟩)
theorem PgOk.len (h : PgOk ph s c l) : l.length ≤ 16 := by
  have := h.ok.many; have := h.ok.w1
  rw [h.held, List.length_map] at *
  omega
/-- A held page is clean now. -/
def wash (l : List FV) (i : Nat) (hi : i < l.length) : List FV := l.set i ({ l[i].1 with is := 1 }, l[i].2)
theorem wash_len {i : Nat} (hi : i < l.length) : (wash l i hi).length = l.length := by unfold wash; simp
theorem wash_at {i j : Nat} (hi : i < l.length) (hj : j < l.length) : (wash l i hi)[j]'(by rw [wash_len]; exact hj) = if i = j then ({ l[i].1 with is := 1 }, l[i].2) else l[j] := by
  unfold wash; rw [List.getElem_set]
theorem wash_pages {i : Nat} (hi : i < l.length) : fpages (wash l i hi) = fpages l := by
  apply List.ext_getElem (by simp [fpages, wash_len])
  intro j h1 h2
  have hj : j < l.length := by simpa [fpages] using h2
  simp only [fpages, List.getElem_map]
  rw [wash_at hi hj]
  split
  · rename_i e; subst e; rfl
  · rfl
theorem page_inj (hn : (fpages l).Nodup) {i j : Nat} (hi : i < l.length) (hj : j < l.length) (e : l[i].1.page = l[j].1.page) : i = j := by
  have h := List.pairwise_iff_getElem.1 hn
  have hi' : i < (fpages l).length := by simpa [fpages] using hi
  have hj' : j < (fpages l).length := by simpa [fpages] using hj
  have e' : (fpages l)[i] = (fpages l)[j] := by simp only [fpages, List.getElem_map]; exact e
  rcases Nat.lt_trichotomy i j with hlt|hlt|hlt
  · exact absurd e' (h i j hi' hj' hlt)
  · exact hlt
  · exact absurd e'.symm (h j i hj' hi' hlt)
theorem wash_held (h : PgOk ph s c l) {i : Nat} (hi : i < l.length) : PagerS.cleaned s.held l[i].1.page = (wash l i hi).map (·.1) := by
  rw [h.held]
  unfold PagerS.cleaned
  rw [List.map_map]
  apply List.ext_getElem (by simp [wash_len])
  intro j h1 h2
  have hj : j < l.length := by simpa using h1
  simp only [List.getElem_map, Function.comp]
  rw [wash_at hi hj]
  by_cases e : i = j
  · subst e; rw [if_pos rfl, if_pos rfl]
  · rw [if_neg e, if_neg (fun hh => e (page_inj h.nodup hj hi hh).symm)]
theorem wash_F (hn : (fpages l).Nodup) {i : Nat} (hi : i < l.length) : heldF (wash l i hi) = heldF l := by
  funext n
  by_cases hin : n ∈ fpages l
  · obtain ⟨j, hj, rfl⟩ := List.mem_iff_getElem.1 hin
    have hj' : j < l.length := by simpa [fpages] using hj
    have hnw : (fpages (wash l i hi)).Nodup := by rw [wash_pages]; exact hn
    have e1 := heldF_at hnw (i := j) (by rw [wash_len]; exact hj')
    have e2 := heldF_at hn hj'
    rw [wash_at hi hj'] at e1
    simp only [fpages, List.getElem_map]
    rw [e2]
    split at e1
    · rename_i e; subst e; exact e1
    · exact e1
  · rw [heldF_no hin, heldF_no (by rw [wash_pages]; exact hin)]
end
end Go.Sl

/- pager: write, walked. -/
set_option maxHeartbeats 4000000
set_option maxRecDepth 10000
set_option linter.unusedVariables false
set_option linter.unusedSimpArgs false
namespace Go.Sl
open Go Go.Proofs
attribute [local irreducible] pt pur ex all den denOps denS xOps xC cX CX xthen xblk xcut xloop xng retX resX Calls PV Rd Con
attribute [local irreducible] hostA pcl pgSealB pgOpenR HostS.writeR HostS.readR
open PagerS (PS Over)
section
variable {s : PS} {h : HostS.HS} {n : Int}
theorem writeP_worn (hw : s.writes = 4294967295) : PagerS.writeP s h n = (130, PagerS.die s 130, h) := by unfold PagerS.writeP; rw [if_pos hw]
theorem writeP_no (hw : s.writes ≠ 4294967295) (hn : (HostS.writeR h n (PagerS.boxOf s n)).1 ≠ 0) : PagerS.writeP s h n = ((HostS.writeR h n (PagerS.boxOf s n)).1, PagerS.die s (HostS.writeR h n (PagerS.boxOf s n)).1, (HostS.writeR h n (PagerS.boxOf s n)).2) := by unfold PagerS.writeP; rw [if_neg hw]; dsimp only; rw [if_neg hn]
theorem writeP_ok (hw : s.writes ≠ 4294967295) (hn : (HostS.writeR h n (PagerS.boxOf s n)).1 = 0) : PagerS.writeP s h n = (0, PagerS.wroteP s n, (HostS.writeR h n (PagerS.boxOf s n)).2) := by unfold PagerS.writeP; rw [if_neg hw]; dsimp only; rw [if_pos hn]
theorem writeR_err (h : HostS.HS) (n : Int) (b : HostS.Bytes) : (HostS.writeR h n b).1 ≤ 1000 := by
  unfold HostS.writeR
  split
  · split
    · unfold HostS.does
      split
      · (dsimp only; omega)
      · dsimp only
        split
        · (dsimp only; omega)
        · split <;> (dsimp only; omega)
    · (dsimp only; omega)
  · (dsimp only; omega)
end
def plc0 : Plc := ⟨0#64, 0#32, 0#32, 0#32⟩
theorem last_at (s : PS) (n : Int) : ∃ op : Plc, (lastF s.last n).getD (.agg (plc plc0)) = .agg (plc op) ∧ op.version = PagerS.verOf s n := by
  unfold lastF PagerS.verOf
  cases hl : s.last n with
  | none => exact ⟨plc0, rfl, rfl⟩
  | some q => exact ⟨q, rfl, rfl⟩
theorem last_set (f : Int → Option Plc) (n : Int) (q : Plc) : fput (lastF f) n (some (.agg (plc q))) = lastF (HostS.setF f n (some q)) := by
  funext k
  unfold fput lastF HostS.setF
  split <;> rfl
theorem ofNat32_inj {a b : Nat} (ha : a < 4294967296) (hb : b < 4294967296) : BitVec.ofNat 32 a = BitVec.ofNat 32 b ↔ a = b := by
  constructor
  · intro h
    have := congrArg BitVec.toNat h
    simp only [BitVec.toNat_ofNat] at this
    omega
  · rintro rfl; rfl
section
variable {p ph : Nat} {s : PS} {h : HostS.HS}
theorem pwrite_g {c : PC} {l : List FV} (hk : PgOk ph s c l) (hov : Over s h) (hops : h.ops < 3518437208880) {i : Nat} (hi : i < l.length) :
    Con Tryz.prog 63 [hp p, .int .i64 l[i].1.page] (pgL p s c l ++ [hostA ph h]) (fun r M => r = nvv (PagerS.writeP s h l[i].1.page).1 ∧ ∃ l', PgOk ph (PagerS.writeP s h l[i].1.page).2.1 c l' ∧ M = pgL p (PagerS.writeP s h l[i].1.page).2.1 c l' ++ [hostA ph (PagerS.writeP s h l[i].1.page).2.2]) := by
  obtain rfl := hk.ph
  have hkey := hk.ok.key
  have hsz := pg_size (c := c) hkey
  have hwl := hk.ok.writes
  simp only [List.cons_append, List.nil_append]
  by_cases hw : s.writes = 4294967295
  · rw [writeP_worn hw]
    refine fn_x Tryz.func63 rfl rfl rfl Tryz.mixed (by kernel_rfl) ?_
    intro w0
    refine Y7 ?_
    refine Zhp rfl qH (pg_f hkey (k := 8) rfl) ?_
    refine Zhg (Zky (x := BitVec.ofNat 32 s.writes) (y := 4294967295#32) rfl rfl) ?_
    refine Zhm 13 rfl (decide_eq_true ((by rw [hw]))) ?_
    refine Y4 ?_
    refine Zh8 rfl (by kernel_rfl) (die_x hkey 130) rfl qT ?_
    rintro _ _ ⟨rfl, rfl⟩
    refine V3 ?_
    refine rx1 (Zg9 rfl (Zg7)) ?_
    exact ⟨_, ⟨rfl, l, ⟨PagerS.ok_die hk.ok 130 (by omega), rfl, hk.held, hk.n⟩, rfl⟩, qI⟩
  · have hl16 := hk.len
    have hfr := hk.fr hi
    have htx : PagerS.textOf s l[i].1.page = l[i].1.text := by unfold PagerS.textOf; rw [hfr]; rfl
    have htl : l[i].1.text.length = s.text := hk.ok.len _ (by rw [hk.held]; exact List.mem_map.2 ⟨l[i], List.getElem_mem hi, rfl⟩)
    have ht1 := hk.ok.t1
    have ht0 := hk.ok.t0
    obtain ⟨op, ho1, ho2⟩ := last_at s l[i].1.page
    have hbox : PagerS.boxOf s l[i].1.page = pgSealB s.key (PagerS.nextPl s l[i].1.page) l[i].1.text := by unfold PagerS.boxOf; rw [htx]
    have hbl : (pgSealB s.key (PagerS.nextPl s l[i].1.page) l[i].1.text).length = s.text + 28 := by rw [pgSealB_len, htl]
    have hsl := pgSeal_x (L := [ownB l[i].2.2.1 l[i].2.2.2 l[i].1.text]) s.key hkey (PagerS.nextPl s l[i].1.page) (Bs.own .here) (by omega)
    rw [pgSealR_ok _ _ _ (by omega)] at hsl
    have enx : PagerS.nextPl s l[i].1.page = ⟨s.round, BitVec.ofNat 32 s.writes, BitVec.ofInt 32 l[i].1.page, op.version + 1#32⟩ := by unfold PagerS.nextPl; rw [ho2]
    have herr := writeR_err h l[i].1.page (PagerS.boxOf s l[i].1.page)
    have hwr := fun xa xc => write_x (p := c.ph) (s := h) (L := [own 5 1 (.slice xa (pgSealB s.key (PagerS.nextPl s l[i].1.page) l[i].1.text).length xc) (pgSealB s.key (PagerS.nextPl s l[i].1.page) l[i].1.text).length ((pgSealB s.key (PagerS.nextPl s l[i].1.page) l[i].1.text).map u8b)]) l[i].1.page (Bs.own .here) hops (by omega)
    rw [← hbox] at hwr hsl
    rw [← hbox] at hbl
    dsimp only at hsl
    refine fn_x Tryz.func63 rfl rfl rfl Tryz.mixed (by kernel_rfl) ?_
    intro w0
    refine Y7 ?_
    refine Zhp rfl qH (pg_f hkey (k := 8) rfl) ?_
    refine Zhg (Zky (x := BitVec.ofNat 32 s.writes) (y := 4294967295#32) rfl rfl) ?_
    refine Zhn 13 rfl (decide_eq_false ((fun hh => hw ((ofNat32_inj (by omega) (by omega)).1 hh)))) ?_
    refine Y6 ?_
    refine Zhp rfl qH (pg_f hkey (k := 4) rfl) ?_
    refine Y1 ?_
    refine Zoc rfl rfl qH (v := hp l[i].2.1) (by rw [heldF_at hk.nodup hi]; rfl) ?_
    refine V2 ?_
    refine Zij ([cl p (pcl s c) 102, fmA c.bl (lastF s.last)]) [7, 13, 15, 16, 17, 19] (.q 0 (.q 1 (.q 2 (.q 4 (.q 5 (.q 6 (.q 8 (.q 9 (.q 10 (.q 11 (.q 12 (.q 14 (.r 3 (.r 7 (.r 13 (.r 15 (.r 16 (.r 17 (.q 18 (.a 19 (.e 20 false .nil))))))))))))))))))))) (by kernel_rfl) (by kernel_rfl) (Imp.arr qV) ?_
    refine W7 ?_
    refine Zim rfl (Zk6 rfl) ?_
    refine W4 ?_
    refine Ziv rfl rfl qH (pg_f hkey (k := 0) rfl) ?_
    refine Ziv rfl rfl qH (pg_f hkey (k := 8) rfl) ?_
    refine Ziv rfl rfl qH (pg_f hkey (k := 6) rfl) ?_
    refine Zod rfl rfl rfl qH (v := .agg (plc op)) (by exact ho1) ?_
    refine W1 ?_
    refine Ziz rfl (Zkn (y := 1#32) rfl rfl) ?_
    refine Zim rfl (Zdm (cs := plc ⟨s.round, BitVec.ofNat 32 s.writes, BitVec.ofInt 32 l[i].1.page, op.version + 1#32⟩) rfl) ?_
    refine Zir rfl (cs := #[u64b 0#64, u32b 0#32, u32b 0#32, u32b 0#32]) rfl ?_; intro b6
    refine Ziq rfl ?_
    first|refine Zhy rfl rfl qR qZ qN qZ ?_|refine Zhx rfl rfl qR qZ qN qZ rfl ?_
    refine Zg3 ⟨(fun hh => Bool.noConfusion hh), ?_⟩
    refine Zik ?_
    refine Ct.o ?_
    rw [← enx]
    refine Zgp (((Imp.arr (N := star frA l :: cl b6 (plc (PagerS.nextPl s l[i].1.page)) 108 :: cl p (pcl s c) 102 :: fmA c.bh (heldF l) :: fmA c.bl (lastF s.last) :: ownI c.oa c.oc (fpages l) :: [hostA c.ph h]) qV).trans (star_at hi)).trans (Imp.unapp (L := [cl l[i].2.1 #[.slice l[i].2.2.1 l[i].1.text.length l[i].2.2.2, nvv l[i].1.is] 106, ownB l[i].2.2.1 l[i].2.2.2 l[i].1.text]))) ?_
    simp only [List.cons_append, List.nil_append]
    refine Ct.o ?_
    refine Zij ([cl p (pcl s c) 102, cl b6 (plc (PagerS.nextPl s l[i].1.page)) 108, cl l[i].2.1 #[.slice l[i].2.2.1 l[i].1.text.length l[i].2.2.2, nvv l[i].1.is] 106]) [4, 8] (.q 0 (.q 1 (.q 2 (.q 5 (.q 6 (.q 7 (.r 3 (.r 4 (.r 8 (.e 9 false (.q 10 (.q 11 (.q 12 (.q 13 (.q 14 .nil))))))))))))))) (by kernel_rfl) (by kernel_rfl) (Imp.arr qV) ?_
    refine W6 ?_
    refine Zix (n := 32) rfl rfl qH qZ (pg_key hkey) ?_
    refine W2 ?_
    refine Ziq rfl ?_
    refine Zh8 rfl (by kernel_rfl) (hsl) rfl qT ?_
    rintro _ _ ⟨xa, xc, rfl, rfl⟩
    refine Y1 ?_
    refine Zg3 ⟨(fun hh => Bool.noConfusion hh), ?_⟩
    refine W6 ?_
    refine Y3 ?_
    refine Zhm 55 rfl (decide_eq_true (rfl)) ?_
    refine Y6 ?_
    refine Zhp rfl qH (pg_st) ?_
    refine Y2 ?_
    refine Znt rfl (met_write c.ph) (by kernel_rfl) (hwr xa xc) rfl qT ?_
    rintro _ _ ⟨rfl, rfl⟩
    refine V3 ?_
    by_cases h0 : (HostS.writeR h l[i].1.page (PagerS.boxOf s l[i].1.page)).1 = 0
    · rw [writeP_ok hw h0]
      refine Y3 ?_
      refine Zhn 64 rfl (decide_eq_false ((fun hh => hh h0))) ?_
      refine V2 ?_
      refine Zij ([cl p (pcl s c) 102, cl b6 (plc (PagerS.nextPl s l[i].1.page)) 108]) [5] (.q 0 (.q 1 (.q 2 (.q 4 (.r 3 (.r 5 (.e 6 false .nil))))))) (by kernel_rfl) (by kernel_rfl) (Imp.arr qV) ?_
      refine W4 ?_
      refine Ziv rfl rfl qH (pg_f hkey (k := 6) rfl) ?_
      refine W1 ?_
      refine Ziq rfl ?_; refine Zof (v := .agg (plc (PagerS.nextPl s l[i].1.page))) rfl rfl rfl qR ?_; refine Zg3 ⟨(fun hh => Bool.noConfusion hh), ?_⟩
      refine Zik ?_
      refine Ct.o ?_
      rw [last_set]
      have ew : BitVec.ofNat 32 s.writes + 1#32 = BitVec.ofNat 32 (s.writes + 1) := by rw [BitVec.ofNat_add]
      refine Y4 ?_
      refine Zhp rfl qH (pg_f hkey (k := 8) rfl) ?_
      refine Zhg (Zkn (y := 1#32) rfl rfl) ?_
      refine Y2 ?_
      refine Zht rfl rfl qR qZ (pg_s (s := s) (c := c) (s' := PagerS.wroteP s l[i].1.page) (c' := c) hkey (k := 8) (by rw [ew]; rfl) rfl rfl) ?_
      refine V10 ?_
      refine rx1 (Zg9 rfl (Zg7)) ?_
      have hok := PagerS.ok_wrote hk.ok l[i].1.page (by omega)
      have hwh := wash_held hk hi
      refine ⟨_, ⟨rfl, wash l i hi, ⟨hok, rfl, hwh, by rw [wash_pages]; exact hk.n⟩, rfl⟩, ?_⟩
      rw [wash_F hk.nodup hi, wash_pages hi]
      have hst : Imp ([cl l[i].2.1 #[.slice l[i].2.2.1 l[i].1.text.length l[i].2.2.2, nvv 1] 106, ownB l[i].2.2.1 l[i].2.2.2 l[i].1.text] ++ (star frA (l.eraseIdx i) :: cl p (pcl (PagerS.wroteP s l[i].1.page) c) 102 :: fmA c.bh (heldF l) :: fmA c.bl (lastF (PagerS.wroteP s l[i].1.page).last) :: ownI c.oa c.oc (fpages l) :: [hostA c.ph (HostS.writeR h l[i].1.page (PagerS.boxOf s l[i].1.page)).2])) (star frA (wash l i hi) :: cl p (pcl (PagerS.wroteP s l[i].1.page) c) 102 :: fmA c.bh (heldF l) :: fmA c.bl (lastF (PagerS.wroteP s l[i].1.page).last) :: ownI c.oa c.oc (fpages l) :: [hostA c.ph (HostS.writeR h l[i].1.page (PagerS.boxOf s l[i].1.page)).2]) :=
        (Imp.app (L := [cl l[i].2.1 #[.slice l[i].2.2.1 l[i].1.text.length l[i].2.2.2, nvv 1] 106, ownB l[i].2.2.1 l[i].2.2.2 l[i].1.text])).trans (star_back (A := frA) hi ({ l[i].1 with is := 1 }, l[i].2))
      simp only [List.cons_append, List.nil_append] at hst
      exact ((Imp.arr qV).trans hst).trans qI
    · rw [writeP_no hw h0]
      refine Y3 ?_
      refine Zhm 64 rfl (decide_eq_true (h0)) ?_
      refine Y5 ?_
      refine Zh8 rfl (by kernel_rfl) (die_x hkey (HostS.writeR h l[i].1.page (PagerS.boxOf s l[i].1.page)).1) rfl qT ?_
      rintro _ _ ⟨rfl, rfl⟩
      refine V3 ?_
      refine rx1 (Zg9 rfl (Zg7)) ?_
      refine ⟨_, ⟨rfl, l, ⟨PagerS.ok_die hk.ok _ herr, rfl, hk.held, hk.n⟩, rfl⟩, ?_⟩
      have hst : Imp ([cl l[i].2.1 #[.slice l[i].2.2.1 l[i].1.text.length l[i].2.2.2, nvv l[i].1.is] 106, ownB l[i].2.2.1 l[i].2.2.2 l[i].1.text] ++ (star frA (l.eraseIdx i) :: cl p (pcl (PagerS.die s (HostS.writeR h l[i].1.page (PagerS.boxOf s l[i].1.page)).1) c) 102 :: fmA c.bh (heldF l) :: fmA c.bl (lastF s.last) :: ownI c.oa c.oc (fpages l) :: [hostA c.ph (HostS.writeR h l[i].1.page (PagerS.boxOf s l[i].1.page)).2])) (star frA l :: cl p (pcl (PagerS.die s (HostS.writeR h l[i].1.page (PagerS.boxOf s l[i].1.page)).1) c) 102 :: fmA c.bh (heldF l) :: fmA c.bl (lastF s.last) :: ownI c.oa c.oc (fpages l) :: [hostA c.ph (HostS.writeR h l[i].1.page (PagerS.boxOf s l[i].1.page)).2]) := by
        have hb := (Imp.app (L := [cl l[i].2.1 #[.slice l[i].2.2.1 l[i].1.text.length l[i].2.2.2, nvv l[i].1.is] 106, ownB l[i].2.2.1 l[i].2.2.2 l[i].1.text]) (M := star frA (l.eraseIdx i) :: cl p (pcl (PagerS.die s (HostS.writeR h l[i].1.page (PagerS.boxOf s l[i].1.page)).1) c) 102 :: fmA c.bh (heldF l) :: fmA c.bl (lastF s.last) :: ownI c.oa c.oc (fpages l) :: [hostA c.ph (HostS.writeR h l[i].1.page (PagerS.boxOf s l[i].1.page)).2])).trans (star_back (A := frA) hi l[i])
        rwa [List.set_getElem_self] at hb
      simp only [List.cons_append, List.nil_append] at hst
      exact ((Imp.arr qV).trans hst).trans qI
end
end Go.Sl

/- the document's pager (trystref13): place, use, Numbers, walked. -/
set_option maxHeartbeats 4000000
set_option maxRecDepth 10000
set_option linter.unusedVariables false
set_option linter.unusedSimpArgs false
namespace Go.Sl
open Go Go.Proofs
attribute [local irreducible] pt pur ex all den denOps denS xOps xC cX CX xthen xblk xcut xloop xng retX resX Calls PV Rd Con
attribute [local irreducible] hostA refA rpcl pcl
open PagerS (PS)
theorem filter_key {α : Type} {l : List α} {key : α → Int} {n : Int} {i : Nat} (hi : i < l.length) (h : key l[i] = n) (hn : (l.map key).Nodup) : l.eraseIdx i = l.filter fun z => !(key z == n) := by
  rw [List.eraseIdx_eq_take_drop_succ]
  have e : l = l.take i ++ (l[i] :: l.drop (i + 1)) := by rw [← List.drop_eq_getElem_cons hi, List.take_append_drop]
  have hn2 := hn
  rw [e, List.map_append, List.map_cons, List.nodup_append] at hn2
  obtain ⟨_, h2, h3⟩ := hn2
  rw [List.nodup_cons] at h2
  conv => rhs; rw [e]
  rw [List.filter_append, List.filter_cons_of_neg (by simp [h])]
  have f1 : (l.take i).filter (fun z => !(key z == n)) = l.take i := List.filter_eq_self.2 fun z hz => by
    have := h3 (key z) (List.mem_map.2 ⟨z, hz, rfl⟩) (key l[i]) (List.mem_cons_self ..)
    rw [h] at this
    simpa using this
  have f2 : (l.drop (i + 1)).filter (fun z => !(key z == n)) = l.drop (i + 1) := List.filter_eq_self.2 fun z hz => by
    simp only [Bool.not_eq_true', beq_eq_false_iff_ne, ne_eq]
    intro hz2
    exact h2.1 (List.mem_map.2 ⟨z, hz, by rw [hz2, h]⟩)
  rw [f1, f2]
def usedH (l : List HE) (e : HE) : List HE := (l.filter fun g => !(g.2.page == e.2.page)) ++ [e]
theorem star_filter {α : Type} {A : α → Asrt} {q : α → Bool} {l : List α} {M : List Asrt} : Imp (star A l :: M) (star A (l.filter q) :: M) := by
  induction l generalizing M with
  | nil => exact Imp.refl _
  | cons x r ih =>
    refine star_uncons.trans ?_
    by_cases h : q x = true
    · rw [List.filter_cons_of_pos h]
      exact (Imp.cons ih).trans star_cons
    · rw [List.filter_cons_of_neg h]
      exact Imp.tail.trans ih
section
variable {p : Nat} {s : PS} {c : RC}
theorem rplace_x (hk : s.key.length = 32) {wl : List Plc} (hz : wl.length ≤ 9223372036854775806) (hn : c.ln = wl.length) (n : Int) : Con Tryz.prog 67 [hp p, .int .i64 n] [cl p (rpcl s c) 126, ownW c.la c.lc wl] (fun r M => r = .tuple #[.agg (plc ((wl.find? (isPg n)).getD plc0)), .bool (wl.find? (isPg n)).isSome] ∧ M = [cl p (rpcl s c) 126, ownW c.la c.lc wl]) := by
  obtain ⟨q, ha, hn', hc, la, ln, lc, took⟩ := c
  dsimp only at hn ⊢
  subst hn
  refine fn_x Tryz.func67 rfl rfl rfl Tryz.mixed (by kernel_rfl) ?_
  intro w0
  refine Y1 ?_
  refine Zhz (cs := #[u64b 0#64, u32b 0#32, u32b 0#32, u32b 0#32]) rfl ?_; intro b4
  refine V5 ?_
  refine Zgo [(5, 35)] (by kernel_rfl) (fun i : Nat => i ≤ wl.length ∧ (wl.take i).find? (isPg n) = none) (fun _ => [cl b4 (plc plc0) 108, cl p (rpcl s ⟨q, ha, hn', hc, la, wl.length, lc, took⟩) 126, ownW la lc wl]) (fun i => [(6, nvv i)]) (fun i => wl.length - i) 0 ⟨Nat.zero_le _, rfl⟩ qI ⟨rfl, trivial⟩ ?_
  rintro i u ⟨hi, he⟩
  refine Y5 ?_
  refine Zhp rfl qH (rp_f hk (k := 5) rfl) ?_
  refine V3 ?_
  refine Zgg rfl (fun hB => ?_) (fun hB => ?_)
  · replace hB : i < wl.length := hB
    refine Zgt (fun F w H => own_someN (n := wl.length) (a := la) (.there (.there .here)) (by omega) H) ?_
    rintro ⟨g, rfl⟩
    refine Ct.o ?_
    have e1 : (wl.take (i + 1)).find? (isPg n) = if isPg n wl[i] then some wl[i] else none := by
      rw [List.take_succ_eq_append_getElem hB, List.find?_append, he]
      simp [List.find?_singleton]
    by_cases hpg : (wl[i].page.toNat : Int) = n
    · have e0 : wl.find? (isPg n) = ((wl.take (i + 1)).find? (isPg n)).or ((wl.drop (i + 1)).find? (isPg n)) := by rw [← List.find?_append, List.take_append_drop]
      have e2 : wl.find? (isPg n) = some wl[i] := by
        rw [e0, e1, if_pos (by unfold isPg; simpa using hpg)]
        rfl
      rw [e2]
      refine Y4 ?_
      refine Zhp rfl qH (rp_f hk (k := 5) rfl) ?_
      refine Y4 ?_
      refine Zff rfl (((Rd.own (n := wl.length) qH).atN0 (j := 2) wpc_len hB (by omega) rfl)) ?_
      refine Zhg (Zk7 rfl) ?_
      refine Y1 ?_
      refine Zhg (Zbr (a := (wl[i].page.toNat : Int)) (b := n) rfl rfl) ?_
      refine Zhm 27 rfl (decide_eq_true (hpg)) ?_
      refine Y6 ?_
      refine Zhp rfl qH (rp_f hk (k := 5) rfl) ?_
      refine Y3 ?_
      refine Zfg rfl ((Rd.own (n := wl.length) (.there (.there .here))).agN0 wpc_len (by omega) hB) ?_
      first|refine Zhy rfl rfl qR qZ (by first|rfl|exact oneM_u8 _|exact oneL_u8 _|exact rhe_one _|exact wpc_one _|assumption|(simp [oneC]; done)) qZ ?_|refine Zhx rfl rfl qR qZ (by first|rfl|exact oneM_u8 _|exact oneL_u8 _|exact rhe_one _|exact wpc_one _|assumption|(simp [oneC]; done)) qZ rfl ?_
      refine V2 ?_
      refine rx2 (Zhe rfl qH qZ (Zha rfl (Zg7))) ?_
      exact ⟨_, ⟨rfl, rfl⟩, qI⟩
    · refine Y4 ?_
      refine Zhp rfl qH (rp_f hk (k := 5) rfl) ?_
      refine Y4 ?_
      refine Zff rfl (((Rd.own (n := wl.length) qH).atN0 (j := 2) wpc_len hB (by omega) rfl)) ?_
      refine Zhg (Zk7 rfl) ?_
      refine Y1 ?_
      refine Zhg (Zbr (a := (wl[i].page.toNat : Int)) (b := n) rfl rfl) ?_
      refine Zhn 27 rfl (decide_eq_false (hpg)) ?_
      refine V7 ?_
      exact Zgl (i + 1) qO ⟨by omega, by rw [e1, if_neg (by unfold isPg; simpa using hpg)]⟩ qI ⟨rfl, trivial⟩
  · replace hB : ¬ i < wl.length := hB
    rw [List.take_of_length_le (by omega)] at he
    rw [he]
    refine Y1 ?_
    refine Zhg (Zdm (cs := #[u64b 0#64, u32b 0#32, u32b 0#32, u32b 0#32]) (by kernel_rfl)) ?_
    first|refine Zhy rfl rfl qR qZ (by first|rfl|exact oneM_u8 _|exact oneL_u8 _|exact rhe_one _|exact wpc_one _|assumption|(simp [oneC]; done)) qZ ?_|refine Zhx rfl rfl qR qZ (by first|rfl|exact oneM_u8 _|exact oneL_u8 _|exact rhe_one _|exact wpc_one _|assumption|(simp [oneC]; done)) qZ rfl ?_
    refine V2 ?_
    refine rx2 (Zhe rfl qH qZ (Zha rfl (Zg7))) ?_
    exact ⟨_, ⟨rfl, rfl⟩, qI⟩
theorem ruse_x (hk : s.key.length = 32) {hl : List HE} (hz : hl.length ≤ 1000) (hn : c.hn = hl.length) (e : HE) (hnd : (hl.map fun g => g.2.page).Nodup) : Con Tryz.prog 65 [hp p, .agg (rhe e).toArray] [cl p (rpcl s c) 126, ownH c.ha c.hc hl] (fun r M => ∃ a' c', M = [cl p (rpcl { s with most := max s.most (usedH hl e).length } { c with ha := a', hn := (usedH hl e).length, hc := c' }) 126, ownH a' c' (usedH hl e)]) := by
  obtain ⟨q, ha, hn', hc, la, ln, lc, took⟩ := c
  dsimp only at hn ⊢
  subst hn
  refine fn_x Tryz.func65 rfl rfl rfl Tryz.mixed (by kernel_rfl) ?_
  intro w0
  refine Y1 ?_
  refine Zh5 rfl ?_; intro b3
  refine Y5 ?_
  refine Zh8 rfl (by kernel_rfl) (rfind_x (c := ⟨q, ha, hl.length, hc, la, ln, lc, took⟩) hk (by omega) rfl e.2.page) rfl qT ?_
  rintro _ _ ⟨hf, rfl⟩
  refine V3 ?_
  rcases hf with ⟨i, hi, hpg, rfl⟩|⟨hno, rfl⟩
  · have hs1 := rp_size (s := s) (c := ⟨q, ha, hl.length, hc, la, ln, lc, took⟩) hk
    have hs2 := rp_size (s := s) (c := ⟨q, ha, (hl.eraseIdx i).length, hc, la, ln, lc, took⟩) hk
    refine Y3 ?_
    refine Zhm 10 rfl (decide_eq_true (Nat.zero_le i)) ?_
    refine Y6 ?_
    refine Zh8 rfl (by kernel_rfl) (rwithout_x (c := ⟨q, ha, hl.length, hc, la, ln, lc, took⟩) hk hz rfl i) rfl qT ?_
    rintro _ _ ⟨a2, c2, rfl, rfl⟩
    refine Y3 ?_
    refine Zhw rfl rfl qR qZ (rp_s (s := s) (c := ⟨q, ha, hl.length, hc, la, ln, lc, took⟩) (s' := s) (c' := ⟨q, a2, (hl.eraseIdx i).length, c2, la, ln, lc, took⟩) hk (k := 4) rfl rfl rfl) ?_
    refine V1 ?_
    rw [filter_key (key := fun g : HE => g.2.page) hi hpg hnd]
    have hul : (usedH hl e).length = (hl.filter fun g => !(g.2.page == e.2.page)).length + 1 := by unfold usedH; simp
    have ez : (usedH hl e).flatMap rhe = (hl.filter fun g => !(g.2.page == e.2.page)).flatMap rhe ++ rhe e := by unfold usedH; simp
    have hle := List.length_filter_le (fun g : HE => !(g.2.page == e.2.page)) hl
    generalize (hl.filter fun g => !(g.2.page == e.2.page)) = E at *
    have hs3 := rp_size (s := s) (c := ⟨q, a2, E.length, c2, la, ln, lc, took⟩) hk
    refine Ct.o ?_
    refine Zij (_) [5, 6] (.q 0 (.q 1 (.q 2 (.q 3 (.r 4 (.r 5 (.e 6 true (.e 7 false (.q 8 (.q 9 (.e 10 false .nil))))))))))) (by kernel_rfl) (by kernel_rfl) (Imp.refl _) ?_
    refine W4 ?_
    refine Ziv rfl rfl qH (rp_f hk (k := 4) rfl) ?_
    refine W1 ?_
    refine Ziq rfl ?_; refine Zh7 (cs := (rhe e).toArray) (by omega) (by omega) (by exact fill_one rfl rfl) ?_; intro b23; refine Zg3 ⟨fun _ => Imp.arr qV, ?_⟩
    refine Ziq rfl ?_
    refine Zia rfl rfl qH (Rd.cl (xs := rhe e) qH rfl qZ rfl) (by first|rfl|exact oneM_u8 _|exact oneL_u8 _|exact rhe_one _|exact wpc_one _|assumption|(simp [oneC]; done)) (by omega) qS ?_; intro a3 c3
    refine Zg3 ⟨(fun hh => Bool.noConfusion hh), ?_⟩
    refine W2 ?_
    refine Ziq rfl ?_
    refine Zhw rfl rfl qR qZ (rp_s (s := s) (c := ⟨q, a2, E.length, c2, la, ln, lc, took⟩) (s' := s) (c' := ⟨q, a3, E.length + 1, c3, la, ln, lc, took⟩) hk (k := 4) rfl rfl rfl) ?_
    refine Zg3 ⟨(fun hh => Bool.noConfusion hh), ?_⟩
    refine Zik ?_
    refine Ct.o ?_
    rw [← hul, ← ez]
    have hs4 := rp_size (s := s) (c := ⟨q, a3, (usedH hl e).length, c3, la, ln, lc, took⟩) hk
    by_cases hm : s.most < (usedH hl e).length
    · refine Ct.o ?_
      refine Zij (_) [8] (.q 0 (.q 1 (.q 2 (.q 5 (.q 6 (.q 7 (.r 3 (.q 4 (.r 8 (.q 9 .nil)))))))))) (by kernel_rfl) (by kernel_rfl) (Imp.refl _) ?_
      refine W6 ?_
      refine Ziv rfl rfl qH (rp_f hk (k := 4) rfl) ?_
      refine W1 ?_
      refine Ziv rfl rfl qH (rp_f hk (k := 6) rfl) ?_
      refine W1 ?_
      refine Zi5 36 rfl (decide_eq_true (hm)) ?_
      refine Zik ?_
      refine V1 ?_
      rw [Nat.max_eq_right (Nat.le_of_lt hm)]
      refine Y5 ?_
      refine Zhp rfl qH (rp_f hk (k := 4) rfl) ?_
      refine Y3 ?_
      refine Zht rfl rfl qR qZ (rp_s (s := s) (c := ⟨q, a3, (usedH hl e).length, c3, la, ln, lc, took⟩) (s' := { s with most := (usedH hl e).length }) (c' := ⟨q, a3, (usedH hl e).length, c3, la, ln, lc, took⟩) hk (k := 6) rfl rfl rfl) ?_
      refine V1 ?_
      first|refine rx0 ?_|refine rx0n ?_
      exact ⟨_, ⟨a3, c3, rfl⟩, qI⟩
    · refine Ct.o ?_
      refine Zij (_) [8] (.q 0 (.q 1 (.q 2 (.q 5 (.q 6 (.q 7 (.r 3 (.q 4 (.r 8 (.q 9 .nil)))))))))) (by kernel_rfl) (by kernel_rfl) (Imp.refl _) ?_
      refine W6 ?_
      refine Ziv rfl rfl qH (rp_f hk (k := 4) rfl) ?_
      refine W1 ?_
      refine Ziv rfl rfl qH (rp_f hk (k := 6) rfl) ?_
      refine W1 ?_
      refine Zi6 36 rfl (decide_eq_false (hm)) ?_
      refine Zik ?_
      refine V1 ?_
      rw [Nat.max_eq_left (by omega)]
      first|refine rx0 ?_|refine rx0n ?_
      exact ⟨_, ⟨a3, c3, rfl⟩, qI⟩
  · have hs1 := rp_size (s := s) (c := ⟨q, ha, hl.length, hc, la, ln, lc, took⟩) hk
    refine Y2 ?_
    refine Zhg (Zbq (a := -1) (b := 0) rfl rfl) ?_
    refine Zhn 10 rfl (decide_eq_false ((by omega))) ?_
    refine V2 ?_
    have hfl : (hl.filter fun g => !(g.2.page == e.2.page)) = hl := List.filter_eq_self.2 fun g hg => by simpa using hno g hg
    have hul : (usedH hl e).length = hl.length + 1 := by unfold usedH; rw [hfl]; simp
    have ez : (usedH hl e).flatMap rhe = hl.flatMap rhe ++ rhe e := by unfold usedH; rw [hfl]; simp
    refine Ct.o ?_
    refine Zij (_) [5, 6] (.q 0 (.q 1 (.q 2 (.q 3 (.r 4 (.r 5 (.e 6 true (.e 7 false (.q 8 (.q 9 (.e 10 false .nil))))))))))) (by kernel_rfl) (by kernel_rfl) (Imp.refl _) ?_
    refine W4 ?_
    refine Ziv rfl rfl qH (rp_f hk (k := 4) rfl) ?_
    refine W1 ?_
    refine Ziq rfl ?_; refine Zh7 (cs := (rhe e).toArray) (by omega) (by omega) (by exact fill_one rfl rfl) ?_; intro b23; refine Zg3 ⟨fun _ => Imp.arr qV, ?_⟩
    refine Ziq rfl ?_
    refine Zia rfl rfl qH (Rd.cl (xs := rhe e) qH rfl qZ rfl) (by first|rfl|exact oneM_u8 _|exact oneL_u8 _|exact rhe_one _|exact wpc_one _|assumption|(simp [oneC]; done)) (by omega) qS ?_; intro a3 c3
    refine Zg3 ⟨(fun hh => Bool.noConfusion hh), ?_⟩
    refine W2 ?_
    refine Ziq rfl ?_
    refine Zhw rfl rfl qR qZ (rp_s (s := s) (c := ⟨q, ha, hl.length, hc, la, ln, lc, took⟩) (s' := s) (c' := ⟨q, a3, hl.length + 1, c3, la, ln, lc, took⟩) hk (k := 4) rfl rfl rfl) ?_
    refine Zg3 ⟨(fun hh => Bool.noConfusion hh), ?_⟩
    refine Zik ?_
    refine Ct.o ?_
    rw [← hul, ← ez]
    have hs4 := rp_size (s := s) (c := ⟨q, a3, (usedH hl e).length, c3, la, ln, lc, took⟩) hk
    by_cases hm : s.most < (usedH hl e).length
    · refine Ct.o ?_
      refine Zij (_) [8] (.q 0 (.q 1 (.q 2 (.q 5 (.q 6 (.q 7 (.r 3 (.q 4 (.r 8 (.q 9 .nil)))))))))) (by kernel_rfl) (by kernel_rfl) (Imp.refl _) ?_
      refine W6 ?_
      refine Ziv rfl rfl qH (rp_f hk (k := 4) rfl) ?_
      refine W1 ?_
      refine Ziv rfl rfl qH (rp_f hk (k := 6) rfl) ?_
      refine W1 ?_
      refine Zi5 36 rfl (decide_eq_true (hm)) ?_
      refine Zik ?_
      refine V1 ?_
      rw [Nat.max_eq_right (Nat.le_of_lt hm)]
      refine Y5 ?_
      refine Zhp rfl qH (rp_f hk (k := 4) rfl) ?_
      refine Y3 ?_
      refine Zht rfl rfl qR qZ (rp_s (s := s) (c := ⟨q, a3, (usedH hl e).length, c3, la, ln, lc, took⟩) (s' := { s with most := (usedH hl e).length }) (c' := ⟨q, a3, (usedH hl e).length, c3, la, ln, lc, took⟩) hk (k := 6) rfl rfl rfl) ?_
      refine V1 ?_
      first|refine rx0 ?_|refine rx0n ?_
      exact ⟨_, ⟨a3, c3, rfl⟩, qI⟩
    · refine Ct.o ?_
      refine Zij (_) [8] (.q 0 (.q 1 (.q 2 (.q 5 (.q 6 (.q 7 (.r 3 (.q 4 (.r 8 (.q 9 .nil)))))))))) (by kernel_rfl) (by kernel_rfl) (Imp.refl _) ?_
      refine W6 ?_
      refine Ziv rfl rfl qH (rp_f hk (k := 4) rfl) ?_
      refine W1 ?_
      refine Ziv rfl rfl qH (rp_f hk (k := 6) rfl) ?_
      refine W1 ?_
      refine Zi6 36 rfl (decide_eq_false (hm)) ?_
      refine Zik ?_
      refine V1 ?_
      rw [Nat.max_eq_left (by omega)]
      first|refine rx0 ?_|refine rx0n ?_
      exact ⟨_, ⟨a3, c3, rfl⟩, qI⟩
end
end Go.Sl

/- tag: what a code is as a number. No program in sight. -/
set_option linter.unusedVariables false
set_option linter.unusedSimpArgs false
namespace Go.Sl
open Go
/-- Bytes as a number, the lowest first. -/
def leN : List Byte → Nat
  | [] => 0
  | x :: l => x.toNat + 256 * leN l
theorem leN_append (a b : List Byte) : leN (a ++ b) = leN a + 256 ^ a.length * leN b := by
  induction a with
  | nil => simp [leN]
  | cons x a ih =>
    simp only [List.cons_append, leN, ih, List.length_cons, Nat.pow_succ, Nat.mul_add]
    rw [← Nat.mul_assoc, Nat.mul_comm 256 (256 ^ a.length)]; omega
theorem leN_lt (l : List Byte) : leN l < 256 ^ l.length := by
  induction l with
  | nil => simp [leN]
  | cons x l ih =>
    have := x.isLt
    simp only [leN, List.length_cons, Nat.pow_succ]; omega
theorem leN_zeros (n : Nat) : leN (List.replicate n 0#8) = 0 := by
  induction n with
  | zero => rfl
  | succ n ih => simp [List.replicate_succ, leN, ih]
theorem leN_inj : ∀ {a b : List Byte}, a.length = b.length → leN a = leN b → a = b
  | [], [], _, _ => rfl
  | x :: a, y :: b, hl, h => by
    have hx := x.isLt; have hy := y.isLt
    simp only [leN] at h
    have h1 : x.toNat = y.toNat := by omega
    have h2 : leN a = leN b := by omega
    rw [BitVec.eq_of_toNat_eq h1, leN_inj (by simpa using hl) h2]
  | [], _ :: _, hl, _ => by simp at hl
  | _ :: _, [], hl, _ => by simp at hl
theorem or_add (a b i : Nat) (h : b < 2 ^ i) : a <<< i ||| b = a * 2 ^ i + b := by rw [← Nat.shiftLeft_add_eq_or_of_lt h, Nat.shiftLeft_eq]
theorem wordB_val : ∀ (b : List Byte), b.length ≤ 8 → (wordB b).toNat = leN b
  | [], _ => rfl
  | x :: b, h => by
    simp only [List.length_cons] at h
    have ih := wordB_val b (by omega)
    have hl := leN_lt b
    have hx := x.isLt
    have hp : 256 ^ b.length ≤ 256 ^ 7 := Nat.pow_le_pow_right (by omega) (by omega)
    have h7 : (256 : Nat) ^ 7 = 72057594037927936 := by decide
    show (wordB b <<< 8 ||| x.setWidth 64).toNat = _
    rw [BitVec.toNat_or, BitVec.toNat_shiftLeft, BitVec.toNat_setWidth, ih, Nat.shiftLeft_eq, Nat.mod_eq_of_lt (show leN b * 2 ^ 8 < 2 ^ 64 by omega), Nat.mod_eq_of_lt (show x.toNat < 2 ^ 64 by omega), ← Nat.shiftLeft_eq, or_add _ _ _ (show x.toNat < 2 ^ 8 from hx)]
    simp only [leN]; omega

abbrev W128.val (x : W128) : Nat := x.1.toNat + 18446744073709551616 * x.2.toNat
abbrev W192.val (h : W192) : Nat := h.1.toNat + 18446744073709551616 * h.2.1.toNat + 340282366920938463463374607431768211456 * h.2.2.toNat
theorem mulW_val (x y : BitVec 64) : (mulW x y).val = x.toNat * y.toNat := by
  have hx := x.isLt; have hy := y.isLt
  have h : x.toNat * y.toNat / 18446744073709551616 < 18446744073709551616 := Nat.div_lt_of_lt_mul (Nat.mul_lt_mul'' hx hy)
  simp only [W128.val, mulW, mulHi, BitVec.toNat_mul, BitVec.toNat_ofNat]
  omega
theorem addW_val (x y : W128) (h : x.val + y.val < 340282366920938463463374607431768211456) : (addW x y).val = x.val + y.val := by
  have h1 := x.1.isLt; have h2 := x.2.isLt; have h3 := y.1.isLt; have h4 := y.2.isLt
  simp only [W128.val, addW, carry, BitVec.toNat_add, BitVec.toNat_ofNat] at *
  omega
theorem plusW_val (h : W192) (x : W128) (hh : h.val + x.val < 6277101735386680763835789423207666416102355444464034512896) : (plusW h x).val = h.val + x.val := by
  have h1 := x.1.isLt; have h2 := x.2.isLt; have h3 := h.1.isLt; have h4 := h.2.1.isLt; have h5 := h.2.2.isLt
  simp only [W128.val, W192.val, plusW, carry, BitVec.toNat_add, BitVec.toNat_ofNat] at *
  omega
theorem and3 (x : BitVec 64) : (x &&& 3#64).toNat = x.toNat % 4 := by
  rw [BitVec.toNat_and]; exact Nat.and_two_pow_sub_one_eq_mod x.toNat 2
theorem andn3 (x : BitVec 64) : (x &&& ~~~ 3#64).toNat = x.toNat / 4 * 4 := by
  have e : x &&& ~~~ 3#64 = (x >>> 2) <<< 2 := by
    apply BitVec.eq_of_getLsbD_eq
    intro i hi
    have hc : (~~~ 3#64).getLsbD i = decide (2 ≤ i) := by
      have : ∀ j : Fin 64, (~~~ 3#64).getLsbD j.val = decide (2 ≤ j.val) := by decide
      exact this ⟨i, hi⟩
    rw [BitVec.getLsbD_and, hc, BitVec.getLsbD_shiftLeft, BitVec.getLsbD_ushiftRight]
    by_cases h : 2 ≤ i
    · have e : 2 + (i - 2) = i := by omega
      simp [h, hi, e]
    · simp [h] <;> omega
  have hx := x.isLt
  rw [e, BitVec.toNat_shiftLeft, BitVec.toNat_ushiftRight, Nat.shiftLeft_eq, Nat.shiftRight_eq_div_pow]
  omega
theorem quarter (f : W128) (hf : f.1.toNat % 4 = 0) : W128.val (f.1 >>> 2 ||| f.2 <<< 62, f.2 >>> 2) = f.val / 4 := by
  have h1 := f.1.isLt; have h2 := f.2.isLt
  have e : (f.1 >>> 2 ||| f.2 <<< 62).toNat = f.2.toNat % 4 * 4611686018427387904 + f.1.toNat / 4 := by
    rw [BitVec.toNat_or, BitVec.toNat_ushiftRight, BitVec.toNat_shiftLeft, Nat.shiftRight_eq_div_pow, Nat.or_comm]
    have e2 : f.2.toNat <<< 62 % 2 ^ 64 = (f.2.toNat % 4) <<< 62 := by
      rw [Nat.shiftLeft_eq, Nat.shiftLeft_eq]; omega
    rw [e2, or_add _ _ _ (by omega)]
  simp only [W128.val, e, BitVec.toNat_ushiftRight, Nat.shiftRight_eq_div_pow]
  omega
def fold130 (t : Nat) : Nat := t % 1361129467683753853853498429727072845824 + 5 * (t / 1361129467683753853853498429727072845824)
theorem expand (h0 h1 h2 r0 r1 B B2 : Nat) (hB : B2 = B * B) : (h0 + B * h1 + B2 * h2) * (r0 + B * r1) = h0 * r0 + B * (h1 * r0 + h0 * r1) + B2 * (h2 * r0 + h1 * r1) + B2 * B * (h2 * r1) := by
  subst hB
  simp only [Nat.add_mul, Nat.mul_add, Nat.mul_assoc, Nat.mul_left_comm _ B, Nat.mul_comm h0 B, Nat.mul_comm h1 B, Nat.mul_comm h2 B]
  omega
theorem timesW_val (h : W192) (r : W128) (hh : h.val < 2722258935367507707706996859454145691648) (hr0 : r.1.toNat < 1152921504606846976) (hr1 : r.2.toNat < 1152921504606846976) : (timesW h r).val = fold130 (h.val * r.val) := by
  have b0 := h.1.isLt; have b1 := h.2.1.isLt
  have h2 : h.2.2.toNat ≤ 7 := by simp only [W192.val] at hh; omega
  have e := expand h.1.toNat h.2.1.toNat h.2.2.toNat r.1.toNat r.2.toNat 18446744073709551616 340282366920938463463374607431768211456 (by decide)
  have p00 : h.1.toNat * r.1.toNat < 18446744073709551616 * 1152921504606846976 := Nat.mul_lt_mul'' b0 hr0
  have p10 : h.2.1.toNat * r.1.toNat < 18446744073709551616 * 1152921504606846976 := Nat.mul_lt_mul'' b1 hr0
  have p01 : h.1.toNat * r.2.toNat < 18446744073709551616 * 1152921504606846976 := Nat.mul_lt_mul'' b0 hr1
  have p11 : h.2.1.toNat * r.2.toNat < 18446744073709551616 * 1152921504606846976 := Nat.mul_lt_mul'' b1 hr1
  have p20 : h.2.2.toNat * r.1.toNat ≤ 7 * 1152921504606846976 := Nat.mul_le_mul h2 (by omega)
  have p21 : h.2.2.toNat * r.2.toNat ≤ 7 * 1152921504606846976 := Nat.mul_le_mul h2 (by omega)
  have v0 := mulW_val h.1 r.1
  have v10 := mulW_val h.2.1 r.1
  have v01 := mulW_val h.1 r.2
  have v20 := mulW_val h.2.2 r.1
  have v11 := mulW_val h.2.1 r.2
  have v3 := mulW_val h.2.2 r.2
  have a1 := addW_val (mulW h.2.1 r.1) (mulW h.1 r.2) (by omega)
  have a2 := addW_val (mulW h.2.2 r.1) (mulW h.2.1 r.2) (by omega)
  rw [v10, v01] at a1
  rw [v20, v11] at a2
  have hv : h.val * r.val = h.1.toNat * r.1.toNat + 18446744073709551616 * (h.2.1.toNat * r.1.toNat + h.1.toNat * r.2.toNat) + 340282366920938463463374607431768211456 * (h.2.2.toNat * r.1.toNat + h.2.1.toNat * r.2.toNat) + 340282366920938463463374607431768211456 * 18446744073709551616 * (h.2.2.toNat * r.2.toNat) := e
  clear e v10 v01 v20 v11
  rw [hv]
  unfold timesW
  generalize mulW h.1 r.1 = m0 at *
  generalize addW (mulW h.2.1 r.1) (mulW h.1 r.2) = m1 at *
  generalize addW (mulW h.2.2 r.1) (mulW h.2.1 r.2) = m2 at *
  generalize mulW h.2.2 r.2 = m3 at *
  generalize h.1.toNat * r.1.toNat = q00 at *
  generalize h.2.1.toNat * r.1.toNat = q10 at *
  generalize h.1.toNat * r.2.toNat = q01 at *
  generalize h.2.1.toNat * r.2.toNat = q11 at *
  generalize h.2.2.toNat * r.1.toNat = q20 at *
  generalize h.2.2.toNat * r.2.toNat = q21 at *
  clear hh hv hr0 hr1 h2 b0 b1
  have i0 := m0.1.isLt; have i0' := m0.2.isLt; have i1 := m1.1.isLt; have i1' := m1.2.isLt; have i2 := m2.1.isLt; have i2' := m2.2.isLt; have i3 := m3.1.isLt; have i3' := m3.2.isLt
  simp only [W128.val] at v0 a1 a2 v3
  -- the four words
  obtain ⟨t1, ht1⟩ : ∃ t1, t1 = m1.1 + m0.2 + 0#64 := ⟨_, rfl⟩
  obtain ⟨c1, hc1⟩ : ∃ c1, c1 = carry m1.1 m0.2 0#64 := ⟨_, rfl⟩
  obtain ⟨t2, ht2⟩ : ∃ t2, t2 = m2.1 + m1.2 + c1 := ⟨_, rfl⟩
  obtain ⟨c2, hc2⟩ : ∃ c2, c2 = carry m2.1 m1.2 c1 := ⟨_, rfl⟩
  obtain ⟨t3, ht3⟩ : ∃ t3, t3 = m3.1 + m2.2 + c2 := ⟨_, rfl⟩
  have n1 : t1.toNat + 18446744073709551616 * c1.toNat = m1.1.toNat + m0.2.toNat := by
    rw [ht1, hc1]; simp only [carry, BitVec.toNat_add, BitVec.toNat_ofNat]; omega
  have n2 : t2.toNat + 18446744073709551616 * c2.toNat = m2.1.toNat + m1.2.toNat + c1.toNat := by
    rw [ht2, hc2]; simp only [carry, BitVec.toNat_add, BitVec.toNat_ofNat]; omega
  have n3 : t3.toNat = m3.1.toNat + m2.2.toNat + c2.toNat := by
    rw [ht3]; simp only [BitVec.toNat_add]; omega
  have k1 := t1.isLt; have k2 := t2.isLt; have k3 := t3.isLt
  have hf4 : (t2 &&& ~~~ 3#64).toNat % 4 = 0 := by rw [andn3]; omega
  have q := quarter (t2 &&& ~~~ 3#64, t3) hf4
  have hlow : W192.val (m0.1, t1, t2 &&& 3#64) = m0.1.toNat + 18446744073709551616 * t1.toNat + 340282366920938463463374607431768211456 * (t2.toNat % 4) := by
    simp only [W192.val, and3]
  have hfour : W128.val (t2 &&& ~~~ 3#64, t3) = t2.toNat / 4 * 4 + 18446744073709551616 * t3.toNat := by
    simp only [W128.val, andn3]
  have s1 := plusW_val (m0.1, t1, t2 &&& 3#64) (t2 &&& ~~~ 3#64, t3) (by rw [hlow, hfour]; omega)
  have s2 := plusW_val (plusW (m0.1, t1, t2 &&& 3#64) (t2 &&& ~~~ 3#64, t3)) ((t2 &&& ~~~ 3#64) >>> 2 ||| t3 <<< 62, t3 >>> 2) (by rw [s1, q, hlow, hfour]; omega)
  rw [hlow, hfour] at s1
  rw [s1, q, hfour] at s2
  show (plusW (plusW (m0.1, m1.1 + m0.2 + 0#64, (m2.1 + m1.2 + carry m1.1 m0.2 0#64) &&& 3#64) ((m2.1 + m1.2 + carry m1.1 m0.2 0#64) &&& ~~~ 3#64, m3.1 + m2.2 + carry m2.1 m1.2 (carry m1.1 m0.2 0#64))) _).val = _
  rw [← hc1, ← ht1, ← ht2, ← hc2, ← ht3, s2]
  unfold fold130
  omega
theorem fold130_lt {t : Nat} (h : t < 57896044618658097711785492504343953926634992332820282019728792003956564819968) : fold130 t < 1701411834604692317316873037158841057280 := by unfold fold130; omega
theorem fold130_mod (t : Nat) : fold130 t % 1361129467683753853853498429727072845819 = t % 1361129467683753853853498429727072845819 := by unfold fold130; omega
theorem split16 (b : List Byte) (hb : b.length = 16) : (wordB (b.take 8)).toNat + 18446744073709551616 * (wordB (b.drop 8)).toNat = leN b := by
  rw [wordB_val _ (by simp; omega), wordB_val _ (by simp; omega)]
  have h := leN_append (b.take 8) (b.drop 8)
  rw [List.take_append_drop, show (b.take 8).length = 8 by simp; omega] at h
  rw [h]
theorem takeW_val (h : W192) (r : W128) (b : List Byte) (top : BitVec 64) (hb : b.length = 16) (ht : top.toNat ≤ 1) (hh : h.val < 1701411834604692317316873037158841057280) (hr0 : r.1.toNat < 1152921504606846976) (hr1 : r.2.toNat < 1152921504606846976) :
    (takeW h r b top).val = fold130 ((h.val + leN b + 340282366920938463463374607431768211456 * top.toNat) * r.val) := by
  have hs := split16 b hb
  have i1 := h.1.isLt; have i2 := h.2.1.isLt; have i3 := (wordB (b.take 8)).isLt; have i4 := (wordB (b.drop 8)).isLt
  unfold takeW
  generalize wordB (b.take 8) = x at *
  generalize wordB (b.drop 8) = y at *
  have e : W192.val (h.1 + x + 0#64, h.2.1 + y + carry h.1 x 0#64, h.2.2 + (carry h.2.1 y (carry h.1 x 0#64) + top)) = h.val + leN b + 340282366920938463463374607431768211456 * top.toNat := by
    rw [← hs]
    simp only [W192.val, carry, BitVec.toNat_add, BitVec.toNat_ofNat] at hh ⊢
    omega
  have hl := leN_lt b
  rw [hb, show (256 : Nat) ^ 16 = 340282366920938463463374607431768211456 by decide] at hl
  show (timesW _ r).val = _
  rw [timesW_val _ _ (by rw [e]; omega) hr0 hr1, e]
/-- A code's way, in numbers: what has been taken in, and the bytes that wait. -/
def stepN (R : Nat) (s : Nat × List Byte) (x : Byte) : Nat × List Byte :=
  if s.2.length + 1 = 16 then (((s.1 + leN (s.2 ++ [x]) + 340282366920938463463374607431768211456) * R) % 1361129467683753853853498429727072845819, []) else (s.1, s.2 ++ [x])
def finN (R : Nat) (s : Nat × List Byte) : Nat := if s.2 = [] then s.1 else ((s.1 + leN (s.2 ++ [1#8])) * R) % 1361129467683753853853498429727072845819
structure SimN (R : Nat) (t : PolyS) (s : Nat × List Byte) : Prop where
  ok : PolyOk t
  h : t.h.val % 1361129467683753853853498429727072845819 = s.1
  lt : t.h.val < 1701411834604692317316873037158841057280
  p : s.2 = t.rest.take t.used
  r : t.r.val = R
  r0 : t.r.1.toNat < 1152921504606846976
  r1 : t.r.2.toNat < 1152921504606846976
theorem SimN.len {R : Nat} {t : PolyS} {s : Nat × List Byte} (h : SimN R t s) : s.2.length = t.used := by
  have := h.ok.used; have := h.ok.rest
  rw [h.p]; simp; omega
theorem val_lt (r : W128) (h1 : r.1.toNat < 1152921504606846976) (h2 : r.2.toNat < 1152921504606846976) : r.val < 21267647932558653966460912964485513216 := by simp only [W128.val]; omega
theorem mulmod (a b R P : Nat) (h : a % P = b % P) : (a * R) % P = (b * R) % P := by rw [Nat.mul_mod, h, ← Nat.mul_mod]
theorem simN_push {R : Nat} {t : PolyS} {s : Nat × List Byte} (hs : SimN R t s) (x : Byte) : SimN R (push t x) (stepN R s x) := by
  have hl := hs.len
  have hu := hs.ok.used
  have hr := hs.ok.rest
  have hset : t.rest.set t.used x = t.rest.take t.used ++ x :: t.rest.drop (t.used + 1) := set_split (by omega)
  unfold stepN push
  by_cases h16 : t.used + 1 = 16
  · rw [if_pos h16, if_pos (by omega)]
    have hb : t.rest.set t.used x = s.2 ++ [x] := by
      rw [hset, hs.p, List.drop_of_length_le (by omega)]
    have hbl : (s.2 ++ [x]).length = 16 := by simp; omega
    have hv := takeW_val t.h t.r (s.2 ++ [x]) 1#64 hbl (by decide) hs.lt hs.r0 hs.r1
    have hlt := leN_lt (s.2 ++ [x])
    rw [hbl, show (256 : Nat) ^ 16 = 340282366920938463463374607431768211456 by decide] at hlt
    have hR := val_lt t.r hs.r0 hs.r1
    rw [show (340282366920938463463374607431768211456 * (1#64).toNat) = 340282366920938463463374607431768211456 by decide] at hv
    have hbig : (t.h.val + leN (s.2 ++ [x]) + 340282366920938463463374607431768211456) * t.r.val < 57896044618658097711785492504343953926634992332820282019728792003956564819968 := by
      have := Nat.mul_lt_mul'' (show t.h.val + leN (s.2 ++ [x]) + 340282366920938463463374607431768211456 < 2722258935367507707706996859454145691648 by have := hs.lt; omega) hR
      omega
    refine ⟨⟨by simp [hr], by show 0 < 16; omega⟩, ?_, ?_, by simp, hs.r, hs.r0, hs.r1⟩
    · show (takeW t.h t.r (t.rest.set t.used x) 1#64).val % _ = _
      rw [hb, hv, fold130_mod, ← hs.r]
      apply mulmod
      have := hs.h
      omega
    · show (takeW t.h t.r (t.rest.set t.used x) 1#64).val < _
      rw [hb, hv]
      exact fold130_lt hbig
  · rw [if_neg h16, if_neg (by omega)]
    refine ⟨⟨by simp [hr], by show t.used + 1 < 16; omega⟩, hs.h, hs.lt, ?_, hs.r, hs.r0, hs.r1⟩
    show s.2 ++ [x] = List.take (t.used + 1) (t.rest.set t.used x)
    rw [hset, hs.p, List.take_append, List.take_take]
    have e2 : (t.rest.take t.used).length = t.used := by simp; omega
    rw [e2]; simp
theorem simN_write {R : Nat} {b : List Byte} : ∀ {t : PolyS} {s : Nat × List Byte}, SimN R t s → SimN R (writeS t b) (b.foldl (stepN R) s) := by
  induction b with
  | nil => exact fun h => h
  | cons x b ih => exact fun h => ih (simN_push h x)
theorem fin_val {R : Nat} {t : PolyS} {s : Nat × List Byte} (hs : SimN R t s) : (finS t).h.val % 1361129467683753853853498429727072845819 = finN R s ∧ (finS t).h.val < 1701411834604692317316873037158841057280 := by
  have hl := hs.len
  have hu := hs.ok.used
  have hr := hs.ok.rest
  unfold finS finN
  by_cases h0 : 0 < t.used
  · rw [if_pos h0, if_neg (fun e => by rw [e] at hl; simp at hl; omega)]
    have hlb : lastB t = s.2 ++ [1#8] ++ List.replicate (15 - t.used) 0#8 := by
      unfold lastB
      rw [← hs.p, show List.replicate (16 - t.used) (0#8) = 0#8 :: List.replicate (15 - t.used) 0#8 by rw [← List.replicate_succ]; congr 1; omega]
      rw [List.set_append_right _ _ (by omega), hl, Nat.sub_self]
      simp
    have hlen := lastB_len hr (by omega)
    have hv := takeW_val t.h t.r (lastB t) 0#64 hlen (by decide) hs.lt hs.r0 hs.r1
    have hle : leN (lastB t) = leN (s.2 ++ [1#8]) := by rw [hlb, leN_append, leN_zeros]; omega
    have hlt := leN_lt (lastB t)
    rw [hlen, show (256 : Nat) ^ 16 = 340282366920938463463374607431768211456 by decide, hle] at hlt
    have hR := val_lt t.r hs.r0 hs.r1
    rw [show (340282366920938463463374607431768211456 * (0#64).toNat) = 0 by decide, Nat.add_zero, hle] at hv
    show (takeW t.h t.r (lastB t) 0#64).val % _ = _ ∧ (takeW t.h t.r (lastB t) 0#64).val < _
    rw [hv]
    constructor
    · rw [fold130_mod, ← hs.r]
      apply mulmod
      have := hs.h
      omega
    · apply fold130_lt
      have := Nat.mul_lt_mul'' (show t.h.val + leN (s.2 ++ [1#8]) < 2722258935367507707706996859454145691648 by have := hs.lt; omega) hR
      omega
  · rw [if_neg h0, if_pos (List.eq_nil_of_length_eq_zero (by omega))]
    exact ⟨hs.h, hs.lt⟩
theorem sub_val (x y c : BitVec 64) (hc : c.toNat ≤ 1) : (x - y - c).toNat + y.toNat + c.toNat = x.toNat + 18446744073709551616 * (borrow x y c).toNat := by
  have hx := x.isLt; have hy := y.isLt
  have e : (x - y - c).toNat = (x.toNat + 36893488147419103232 - y.toNat - c.toNat) % 18446744073709551616 := by simp only [BitVec.toNat_sub]; omega
  rw [e]
  unfold borrow
  by_cases h : x.toNat < y.toNat + c.toNat
  · rw [if_pos h, show (1#64).toNat = 1 from rfl]; omega
  · rw [if_neg h, show (0#64).toNat = 0 from rfl]; omega
theorem out_val (h : W192) (s : W128) (hh : h.val < 1701411834604692317316873037158841057280) : (outW h s).val = (h.val % 1361129467683753853853498429727072845819 + s.val) % 340282366920938463463374607431768211456 := by
  have i1 := h.1.isLt; have i2 := h.2.1.isLt; have i3 := h.2.2.isLt; have i4 := s.1.isLt; have i5 := s.2.isLt
  unfold outW
  obtain ⟨b0, hb0⟩ : ∃ b0, b0 = borrow h.1 18446744073709551611#64 0#64 := ⟨_, rfl⟩
  obtain ⟨l0, hl0⟩ : ∃ l0, l0 = h.1 - 18446744073709551611#64 - 0#64 := ⟨_, rfl⟩
  simp only [← hb0, ← hl0]
  obtain ⟨l1, hl1⟩ : ∃ l1, l1 = h.2.1 - 18446744073709551615#64 - b0 := ⟨_, rfl⟩
  obtain ⟨b1, hb1⟩ : ∃ b1, b1 = borrow h.2.1 18446744073709551615#64 b0 := ⟨_, rfl⟩
  simp only [← hb1, ← hl1]
  obtain ⟨b2, hb2⟩ : ∃ b2, b2 = borrow h.2.2 3#64 b1 := ⟨_, rfl⟩
  simp only [← hb2]
  have le0 : b0.toNat ≤ 1 := by rw [hb0]; exact borrow_le _ _ _
  have le1 : b1.toNat ≤ 1 := by rw [hb1]; exact borrow_le _ _ _
  have s0 := sub_val h.1 18446744073709551611#64 0#64 (by decide)
  have s1 := sub_val h.2.1 18446744073709551615#64 b0 le0
  have s2 := sub_val h.2.2 3#64 b1 le1
  rw [← hb0, ← hl0, show (18446744073709551611#64).toNat = 18446744073709551611 from rfl, show (0#64).toNat = 0 from rfl] at s0
  rw [← hb1, ← hl1, show (18446744073709551615#64).toNat = 18446744073709551615 from rfl] at s1
  rw [← hb2, show (3#64).toNat = 3 from rfl] at s2
  have j0 := l0.isLt; have j1 := l1.isLt; have j2 := (h.2.2 - 3#64 - b1).isLt
  have hb2v : b2 = 1#64 ∨ b2 = 0#64 := by rw [hb2]; unfold borrow; split <;> simp
  have key : W128.val (h.1 &&& -b2 ||| l0 &&& ~~~(-b2), h.2.1 &&& -b2 ||| l1 &&& ~~~(-b2)) = (h.val % 1361129467683753853853498429727072845819) % 340282366920938463463374607431768211456 := by
    rcases hb2v with hc|hc
    · rw [hc] at s2 ⊢
      rw [show (1#64).toNat = 1 from rfl] at s2
      have e : ∀ a b : BitVec 64, a &&& -1#64 ||| b &&& ~~~(-1#64) = a := fun a b => by
        have h1 : (-1#64 : BitVec 64) = BitVec.allOnes 64 := by decide
        have h2 : (~~~(-1#64) : BitVec 64) = 0#64 := by decide
        rw [h2, h1, BitVec.and_allOnes, BitVec.and_zero, BitVec.or_zero]
      simp only [e, W128.val, W192.val] at hh ⊢
      have hN : h.1.toNat + 18446744073709551616 * h.2.1.toNat + 340282366920938463463374607431768211456 * h.2.2.toNat < 1361129467683753853853498429727072845819 := by omega
      rw [Nat.mod_eq_of_lt hN]
      clear s0 s1 s2
      omega
    · rw [hc] at s2 ⊢
      rw [show (0#64).toNat = 0 from rfl] at s2
      have e : ∀ a b : BitVec 64, a &&& -0#64 ||| b &&& ~~~(-0#64) = b := fun a b => by
        have h1 : (-0#64 : BitVec 64) = 0#64 := by decide
        have h2 : (~~~(-0#64) : BitVec 64) = BitVec.allOnes 64 := by decide
        rw [h2, h1, BitVec.and_allOnes, BitVec.and_zero, BitVec.zero_or]
      simp only [e, W128.val, W192.val] at hh ⊢
      have hN : h.1.toNat + 18446744073709551616 * h.2.1.toNat + 340282366920938463463374607431768211456 * h.2.2.toNat = 1361129467683753853853498429727072845819 + (l0.toNat + 18446744073709551616 * l1.toNat + 340282366920938463463374607431768211456 * (h.2.2 - 3#64 - b1).toNat) := by omega
      rw [hN, Nat.add_mod_left, Nat.mod_eq_of_lt (a := l0.toNat + 18446744073709551616 * l1.toNat + 340282366920938463463374607431768211456 * (h.2.2 - 3#64 - b1).toNat) (by omega)]
      clear s0 s1 s2 hN hh
      omega
  generalize (h.1 &&& -b2 ||| l0 &&& ~~~(-b2)) = k0 at *
  generalize (h.2.1 &&& -b2 ||| l1 &&& ~~~(-b2)) = k1 at *
  have j3 := k0.isLt; have j4 := k1.isLt
  clear s0 s1 s2 hb0 hb1 hb2 hl0 hl1 hb2v
  simp only [W128.val] at key ⊢
  simp only [carry, BitVec.toNat_add, BitVec.toNat_ofNat]
  omega
theorem bytesOf_val (o : W128) : leN (bytesOf o) = o.val := by
  have h1 := o.1.isLt; have h2 := o.2.isLt
  have e : bytesOf o = [outB o 0, outB o 1, outB o 2, outB o 3, outB o 4, outB o 5, outB o 6, outB o 7, outB o 8, outB o 9, outB o 10, outB o 11, outB o 12, outB o 13, outB o 14, outB o 15] := rfl
  have lo : ∀ i, i < 8 → (outB o i).toNat = o.1.toNat / 2 ^ (8 * i) % 256 := fun i hi => by
    unfold outB
    rw [if_pos (by omega), BitVec.toNat_setWidth, BitVec.toNat_ushiftRight, Nat.shiftRight_eq_div_pow, Nat.mod_eq_of_lt hi]
  have hi : ∀ i, i < 8 → (outB o (8 + i)).toNat = o.2.toNat / 2 ^ (8 * i) % 256 := fun i hi => by
    unfold outB
    rw [if_neg (by omega), BitVec.toNat_setWidth, BitVec.toNat_ushiftRight, Nat.shiftRight_eq_div_pow, show (8 + i) % 8 = i by omega]
  have l0 := lo 0 (by omega); have l1 := lo 1 (by omega); have l2 := lo 2 (by omega); have l3 := lo 3 (by omega); have l4 := lo 4 (by omega); have l5 := lo 5 (by omega); have l6 := lo 6 (by omega); have l7 := lo 7 (by omega)
  have g0 := hi 0 (by omega); have g1 := hi 1 (by omega); have g2 := hi 2 (by omega); have g3 := hi 3 (by omega); have g4 := hi 4 (by omega); have g5 := hi 5 (by omega); have g6 := hi 6 (by omega); have g7 := hi 7 (by omega)
  rw [e]
  simp only [leN, l0, l1, l2, l3, l4, l5, l6, l7, g0, g1, g2, g3, g4, g5, g6, g7, Nat.reduceAdd, Nat.reduceMul, Nat.reducePow, W128.val]
  clear l0 l1 l2 l3 l4 l5 l6 l7 g0 g1 g2 g3 g4 g5 g6 g7 lo hi e
  omega
/-- r and s of a key, as numbers. -/
def rN (key : List Byte) : Nat := (newS key).r.val
def sN (key : List Byte) : Nat := leN (key.drop 16)
theorem newS_sim (key : List Byte) : SimN (rN key) (newS key) (0, []) := by
  refine ⟨newS_ok key, rfl, (show (0#64 : BitVec 64).toNat + 18446744073709551616 * (0#64 : BitVec 64).toNat + 340282366920938463463374607431768211456 * (0#64 : BitVec 64).toNat < _ by decide), rfl, rfl, ?_, ?_⟩
  · show (_ &&& _ : BitVec 64).toNat < _
    rw [BitVec.toNat_and]
    exact Nat.lt_of_le_of_lt Nat.and_le_right (by decide)
  · show (_ &&& _ : BitVec 64).toNat < _
    rw [BitVec.toNat_and]
    exact Nat.lt_of_le_of_lt Nat.and_le_right (by decide)
theorem push_rs (t : PolyS) (x : Byte) : (push t x).s = t.s := by unfold push; split <;> rfl
theorem writeS_rs : ∀ (b : List Byte) (t : PolyS), (writeS t b).s = t.s
  | [], _ => rfl
  | x :: b, t => (writeS_rs b (push t x)).trans (push_rs t x)
theorem newS_s (key : List Byte) (hk : key.length = 32) : (newS key).s.val = sN key := by
  have h := split16 (key.drop 16) (by simp; omega)
  rw [List.drop_drop] at h
  exact h
/-- What a code is, as a number. -/
def polyN (key m : List Byte) : Nat := finN (rN key) (m.foldl (stepN (rN key)) (0, []))
theorem code_val (key m : List Byte) (hk : key.length = 32) : leN (code key m) = (polyN key m + sN key) % 340282366920938463463374607431768211456 := by
  have h := simN_write (b := m) (newS_sim key)
  have hf := fin_val h
  show leN (bytesOf (outW (finS (writeS (newS key) m)).h (finS (writeS (newS key) m)).s)) = _
  rw [bytesOf_val, out_val _ _ hf.2, hf.1, finS_s, writeS_rs, newS_s key hk]
  rfl
end Go.Sl

/- the document's key stream: words of 32 bits as numbers of 64; in plain Lean. -/
set_option linter.unusedVariables false
set_option linter.unusedSimpArgs false
namespace Go.Sl
open Go
theorem c32 : (4294967296#64).toNat = 4294967296 := by decide
theorem c256 : (256#64).toNat = 256 := by decide
theorem plus32 (x y : Wd) : (x.setWidth 64 + y.setWidth 64) % 4294967296#64 = (x + y).setWidth 64 := by
  apply BitVec.eq_of_toNat_eq
  have := x.isLt; have := y.isLt
  rw [BitVec.toNat_umod, BitVec.toNat_add, BitVec.toNat_setWidth, BitVec.toNat_setWidth, BitVec.toNat_setWidth, BitVec.toNat_add, c32]
  omega
theorem xor32 (x y : Wd) : x.setWidth 64 ^^^ y.setWidth 64 = (x ^^^ y).setWidth 64 := by rw [BitVec.setWidth_xor]
theorem rotW_val (x : Wd) (n : Nat) (hn : 0 < n ∧ n < 32) : (rotW x n).toNat = (x.toNat * 2 ^ n) % 4294967296 + x.toNat / 2 ^ (32 - n) := by
  have hx := x.isLt
  have hp : 2 ^ n * 2 ^ (32 - n) = 4294967296 := by rw [← Nat.pow_add, show n + (32 - n) = 32 by omega]
  have h0 : 0 < 2 ^ (32 - n) := Nat.two_pow_pos _
  have h1 : 0 < 2 ^ n := Nat.two_pow_pos _
  have e1 : (x.toNat * 2 ^ n) % 4294967296 = (x.toNat % 2 ^ (32 - n)) * 2 ^ n := by
    rw [← hp, Nat.mul_comm (2 ^ n) (2 ^ (32 - n)), Nat.mul_mod_mul_right]
  have e2 : x.toNat / 2 ^ (32 - n) < 2 ^ n := by
    apply Nat.div_lt_of_lt_mul
    rw [Nat.mul_comm, hp]; omega
  unfold rotW
  rw [BitVec.toNat_or, BitVec.toNat_shiftLeft, BitVec.toNat_ushiftRight, Nat.shiftLeft_eq, Nat.shiftRight_eq_div_pow, show (2 : Nat) ^ 32 = 4294967296 by decide, e1]
  have := or_add (x.toNat % 2 ^ (32 - n)) (x.toNat / 2 ^ (32 - n)) n e2
  rwa [Nat.shiftLeft_eq] at this
theorem left32 (x : Wd) (n : Nat) (hn : n = 7 ∨ n = 8 ∨ n = 12 ∨ n = 16) : (x.setWidth 64 <<< n) % 4294967296#64 + x.setWidth 64 >>> (32 - n) = (rotW x n).setWidth 64 := by
  apply BitVec.eq_of_toNat_eq
  have hx := x.isLt
  have hr := rotW_val x n (by omega)
  rw [BitVec.toNat_add, BitVec.toNat_umod, BitVec.toNat_shiftLeft, BitVec.toNat_ushiftRight, BitVec.toNat_setWidth, BitVec.toNat_setWidth, c32, hr, Nat.shiftLeft_eq, Nat.shiftRight_eq_div_pow]
  rw [Nat.mod_eq_of_lt (show x.toNat < 2 ^ 64 by omega), Nat.mod_mod_of_dvd _ (by decide : 4294967296 ∣ 2 ^ 64)]
/-- Half a quarter round. -/
def hrW (n m : Nat) (q : Wd × Wd × Wd × Wd) : Wd × Wd × Wd × Wd :=
  (q.1 + q.2.1, rotW (q.2.1 ^^^ (q.2.2.1 + rotW (q.2.2.2 ^^^ (q.1 + q.2.1)) n)) m, q.2.2.1 + rotW (q.2.2.2 ^^^ (q.1 + q.2.1)) n, rotW (q.2.2.2 ^^^ (q.1 + q.2.1)) n)
theorem quarter_hr (a b c d : Wd) : quarterW a b c d = hrW 8 7 (hrW 16 12 (a, b, c, d)) := rfl
theorem lowB_val (w : Nat) : ∀ (n : Nat) (b : List Byte), b.length = n → 8 * n ≤ w → (lowB w b).toNat = leN b
  | 0, b, h, _ => by
    have : b = [] := List.eq_nil_of_length_eq_zero h
    subst this; simp [lowB, leN]
  | n + 1, b, h, hw => by
    obtain ⟨a, x, rfl⟩ : ∃ a x, b = a ++ [x] := ⟨b.dropLast, b.getLast (by intro e; rw [e] at h; cases h), (List.dropLast_concat_getLast _).symm⟩
    have ha : a.length = n := by simpa using h
    have ih := lowB_val w n a ha (by omega)
    have hl := leN_lt a
    have hx := x.isLt
    rw [lowB_snoc, BitVec.toNat_or, BitVec.toNat_shiftLeft, BitVec.toNat_setWidth, ih, leN_append, ha, Nat.shiftLeft_eq]
    have hp : (256 : Nat) ^ n = 2 ^ (8 * n) := by rw [show (256 : Nat) = 2 ^ 8 by decide, ← Nat.pow_mul]
    have hw2 : 2 ^ (8 * n) * 256 ≤ 2 ^ w := by
      rw [show (256 : Nat) = 2 ^ 8 by decide, ← Nat.pow_add]; exact Nat.pow_le_pow_right (by omega) (by omega)
    have h1 : 0 < 2 ^ (8 * n) := Nat.two_pow_pos _
    have hxm : x.toNat % 2 ^ w = x.toNat := Nat.mod_eq_of_lt (by
      have : 256 ≤ 2 ^ (8 * n) * 256 := Nat.le_mul_of_pos_left _ h1
      omega)
    have hxl : x.toNat * 2 ^ (8 * n) < 2 ^ w := by
      have : x.toNat * 2 ^ (8 * n) < 256 * 2 ^ (8 * n) := Nat.mul_lt_mul_of_pos_right hx h1
      rw [Nat.mul_comm 256] at this; omega
    rw [ha, hp] at hl
    rw [hxm, Nat.mod_eq_of_lt hxl, Nat.or_comm]
    have := or_add x.toNat (leN a) (8 * n) hl
    rw [Nat.shiftLeft_eq] at this
    rw [this, hp]; simp only [leN]; rw [Nat.mul_zero, Nat.add_zero, Nat.mul_comm, Nat.add_comm]
theorem num32 (b : List Byte) (h : b.length = 4) : BitVec.ofNat 64 (leN b) = (lowB 32 b).setWidth 64 := by
  apply BitVec.eq_of_toNat_eq
  rw [BitVec.toNat_ofNat, BitVec.toNat_setWidth, lowB_val 32 4 b h (by omega)]
theorem numStep (v : Nat) (x : Byte) : BitVec.ofNat 64 v * 256#64 + x.setWidth 64 = BitVec.ofNat 64 (x.toNat + 256 * v) := by
  apply BitVec.eq_of_toNat_eq
  have := x.isLt
  rw [BitVec.toNat_add, BitVec.toNat_mul, c256, BitVec.toNat_ofNat, BitVec.toNat_ofNat, BitVec.toNat_setWidth]
  omega
theorem byteRem (x : BitVec 64) : (x % 256#64).setWidth 8 = x.setWidth 8 := by
  apply BitVec.eq_of_toNat_eq
  rw [BitVec.toNat_setWidth, BitVec.toNat_setWidth, BitVec.toNat_umod, c256]
  omega
theorem byteQuo (x : BitVec 64) : x / 256#64 = x >>> 8 := by
  apply BitVec.eq_of_toNat_eq
  rw [BitVec.toNat_udiv, c256, BitVec.toNat_ushiftRight, Nat.shiftRight_eq_div_pow]
end Go.Sl

/- the document's key stream: plus, against, left, Quarter, numbers of bytes, walked. -/
set_option maxHeartbeats 4000000
set_option maxRecDepth 10000
set_option linter.unusedVariables false
set_option linter.unusedSimpArgs false
namespace Go.Sl
open Go Go.Proofs
attribute [local irreducible] pt pur ex all den denOps denS xOps xC cX CX xthen xblk xcut xloop xng retX resX Calls PV Rd Con
abbrev w64 (x : Wd) : Value := u64b (x.setWidth 64)
theorem wd_eq {a b : BitVec 64} (h : a = b) : u64b a = u64b b := by rw [h]
theorem plusR_x (x y : Wd) : Con Tryz.prog 170 [w64 x, w64 y] [] (fun r M => r = w64 (x + y) ∧ M = []) := by
  refine fn_x Tryz.func170 rfl rfl rfl Tryz.mixed (by kernel_rfl) ?_
  intro w0
  refine Y7 ?_
  refine Zhg (PV.eq (Zlu (y := 4294967296#64) rfl rfl) (wd_eq (plus32 x y))) ?_
  refine V2 ?_
  refine rx1 (Zg9 rfl (Zg7)) ?_
  exact ⟨_, ⟨rfl, rfl⟩, by exact Imp.arr (by repeat (first|exact Arr.nil|exact Arr.stop|refine Arr.cons (by repeat constructor) ?_|refine Arr.skip ?_))⟩
theorem againstR_x (x y : Wd) : Con Tryz.prog 175 [w64 x, w64 y] [] (fun r M => r = w64 (x ^^^ y) ∧ M = []) := by
  refine fn_x Tryz.func175 rfl rfl rfl Tryz.mixed (by kernel_rfl) ?_
  intro w0
  refine Y6 ?_
  refine Zhg (PV.eq (Zlh rfl rfl) (wd_eq (xor32 x y))) ?_
  refine V2 ?_
  refine rx1 (Zg9 rfl (Zg7)) ?_
  exact ⟨_, ⟨rfl, rfl⟩, by exact Imp.arr (by repeat (first|exact Arr.nil|exact Arr.stop|refine Arr.cons (by repeat constructor) ?_|refine Arr.skip ?_))⟩
theorem leftR_x (x : Wd) (n : Nat) (hn : n = 7 ∨ n = 8 ∨ n = 12 ∨ n = 16) : Con Tryz.prog 180 [w64 x, nvv n] [] (fun r M => r = w64 (rotW x n) ∧ M = []) := by
  refine fn_x Tryz.func180 rfl rfl rfl Tryz.mixed (by kernel_rfl) ?_
  intro w0
  refine V3 ?_
  refine Zij ([]) [] (.q 0 (.q 1 (.q 2 (.q 3 (.q 4 (.q 5 (.q 6 (.q 7 (.q 8 (.q 9 .nil)))))))))) (by kernel_rfl) (by kernel_rfl) (Imp.arr Arr.stop) ?_
  refine W2 ?_
  refine Zim rfl (Zlj rfl rfl) ?_
  refine Zim rfl (Zlu (y := 4294967296#64) rfl rfl (by decide)) ?_
  refine W2 ?_
  first|refine Zim rfl (Zmb (a := 32) rfl rfl) ?_|refine Zim rfl (Zbh rfl rfl) ?_
  refine Zim rfl (Zlk rfl rfl) ?_
  refine Zim rfl (PV.eq (Zlc rfl rfl) (wd_eq (left32 x n hn))) ?_
  refine W2 ?_
  refine Ct.o ?_
  refine rx1 (Zg9 rfl (Zg7)) ?_
  exact ⟨_, ⟨rfl, rfl⟩, by exact Imp.arr (by repeat (first|exact Arr.nil|exact Arr.stop|refine Arr.cons (by repeat constructor) ?_|refine Arr.skip ?_))⟩
def tA (k : Nat) : Nat := if k = 0 then 16 else 8
def tB (k : Nat) : Nat := if k = 0 then 12 else 7
theorem tA_ok (k : Nat) : tA k = 7 ∨ tA k = 8 ∨ tA k = 12 ∨ tA k = 16 := by unfold tA; split <;> omega
theorem tB_ok (k : Nat) : tB k = 7 ∨ tB k = 8 ∨ tB k = 12 ∨ tB k = 16 := by unfold tB; split <;> omega
def qK (a b c d : Wd) : Nat → Wd × Wd × Wd × Wd
  | 0 => (a, b, c, d)
  | 1 => hrW 16 12 (a, b, c, d)
  | _ => hrW 8 7 (hrW 16 12 (a, b, c, d))
theorem qK_succ (a b c d : Wd) (k : Nat) (h : k < 2) : qK a b c d (k + 1) = hrW (tA k) (tB k) (qK a b c d k) := by
  match k, h with
  | 0, _ => rfl
  | 1, _ => rfl
abbrev qcl (q : Wd × Wd × Wd × Wd) : Array Value := #[w64 q.1, w64 q.2.1, w64 q.2.2.1, w64 q.2.2.2]
attribute [local irreducible] rotW qK hrW
theorem quarterR_x (a b c d : Wd) : Con Tryz.prog 168 [.agg #[w64 a, w64 b, w64 c, w64 d]] [] (fun r M => r = .agg (qcl (quarterW a b c d)) ∧ M = []) := by
  have hq0 : qK a b c d 0 = (a, b, c, d) := by unfold qK; rfl
  have hq2 : qK a b c d 2 = quarterW a b c d := by rw [quarter_hr]; unfold qK; rfl
  have hturn : ∀ k, k < 2 → (#[.int .i64 16, .int .i64 12, .int .i64 8, .int .i64 7] : Array Value)[2 * k]? = some (nvv (tA k)) ∧ (#[.int .i64 16, .int .i64 12, .int .i64 8, .int .i64 7] : Array Value)[2 * k + 1]? = some (nvv (tB k)) := by
    intro k hk
    match k, hk with
    | 0, _ => exact ⟨rfl, rfl⟩
    | 1, _ => exact ⟨rfl, rfl⟩
  refine fn_x Tryz.func168 rfl rfl rfl Tryz.mixed (by kernel_rfl) ?_
  intro w0
  refine Y1 ?_
  refine Zh5 rfl ?_; intro b1
  refine Zhz (cs := ((List.replicate 4 0#64).map u64b).toArray) rfl ?_; intro b2
  refine Y2 ?_
  refine Zhg (Zdn (cs := #[.int .i64 16, .int .i64 12, .int .i64 8, .int .i64 7]) (by kernel_rfl)) ?_
  refine Zhz (cs := #[.int .i64 0, .int .i64 0, .int .i64 0, .int .i64 0]) rfl ?_; intro b3
  first|refine Zhy rfl rfl qR qZ qN qZ ?_|refine Zhx rfl rfl qR qZ qN qZ rfl ?_
  refine V4 ?_
  refine Zgo [(4, 4), (6, 42)] (by kernel_rfl) (fun k : Nat => k ≤ 2) (fun k => [cl b3 #[.int .i64 16, .int .i64 12, .int .i64 8, .int .i64 7] 259, cl b1 (qcl (qK a b c d k)) 248, cl b2 #[u64b 0#64, u64b 0#64, u64b 0#64, u64b 0#64] 248])
    (fun k => [(4, nvv (2 * k))]) (fun k => 2 - k) 0 (by omega) (by rw [hq0]; exact qI) ⟨rfl, trivial⟩ ?_
  intro k u hk
  refine V4 ?_
  refine Zgg rfl (fun hB => ?_) (fun hB => ?_)
  · have hk2 : k < 2 := by omega
    have hs := qK_succ a b c d k hk2
    obtain ⟨ht1, ht2⟩ := hturn k hk2
    generalize qK a b c d k = Q at hs
    obtain ⟨p, q, r, s⟩ := Q
    refine Y1 ?_
    first|refine Zhg (Zl5 (n := 0) rfl rfl) ?_|refine Zhg (Zl3 (n := 0) rfl rfl) ?_
    refine Y1 ?_
    first|refine Zhg (Zl5 (n := 1) rfl rfl) ?_|refine Zhg (Zl3 (n := 1) rfl rfl) ?_
    refine Y1 ?_
    refine Zh8 rfl (by kernel_rfl) (plusR_x p q) rfl qT ?_
    rintro _ _ ⟨rfl, rfl⟩
    refine Y1 ?_
    first|refine Zhg (Zl5 (n := 0) rfl rfl) ?_|refine Zhg (Zl3 (n := 0) rfl rfl) ?_
    refine V2 ?_
    refine Zij (_) [3, 4, 7] (.q 0 (.q 2 (.q 5 (.q 6 (.r 1 (.r 3 (.r 7 (.e 4 true (.e 8 false (.q 9 (.e 10 false .nil))))))))))) (by kernel_rfl) (by kernel_rfl) (Imp.refl _) ?_
    first|refine Zim rfl (Zl5 (n := 3) rfl rfl) ?_|refine Zim rfl (Zl3 (n := 3) rfl rfl) ?_
    first|refine Zim rfl (Zl5 (n := 0) rfl rfl) ?_|refine Zim rfl (Zl3 (n := 0) rfl rfl) ?_
    refine W1 ?_
    first|refine Zim rfl (Zl5 (n := 2 * k) rfl (int_eq (by push_cast; omega))) ?_|refine Zim rfl (Zl3 (n := 2 * k) rfl (int_eq (by push_cast; omega))) ?_
    refine W2 ?_
    refine Ziv rfl rfl qH (ht1) ?_
    refine Ziq rfl ?_
    refine Zh8 rfl (by kernel_rfl) (againstR_x s (p + q)) rfl qT ?_
    rintro _ _ ⟨rfl, rfl⟩
    refine Y1 ?_
    refine Zg3 ⟨fun _ => Imp.arr qV, ?_⟩
    refine Ziq rfl ?_
    refine Zh8 rfl (by kernel_rfl) (leftR_x _ _ (tA_ok k)) rfl qT ?_
    rintro _ _ ⟨rfl, rfl⟩
    refine Y1 ?_
    refine Zg3 ⟨(fun hh => Bool.noConfusion hh), ?_⟩
    first|refine Zim rfl (Zl5 (n := 3) rfl rfl) ?_|refine Zim rfl (Zl3 (n := 3) rfl rfl) ?_
    refine Ziq rfl ?_
    refine Y1 ?_
    refine Zg3 ⟨(fun hh => Bool.noConfusion hh), ?_⟩
    refine Zik ?_
    refine Y1 ?_
    first|refine Zhg (Zl5 (n := 2) rfl rfl) ?_|refine Zhg (Zl3 (n := 2) rfl rfl) ?_
    refine Y1 ?_
    first|refine Zhg (Zl5 (n := 3) rfl rfl) ?_|refine Zhg (Zl3 (n := 3) rfl rfl) ?_
    refine Y1 ?_
    refine Zh8 rfl (by kernel_rfl) (plusR_x r _) rfl qT ?_
    rintro _ _ ⟨rfl, rfl⟩
    refine Y1 ?_
    first|refine Zhg (Zl5 (n := 2) rfl rfl) ?_|refine Zhg (Zl3 (n := 2) rfl rfl) ?_
    refine V2 ?_
    refine Zij (_) [3, 4, 8] (.q 0 (.q 2 (.q 5 (.q 6 (.q 7 (.r 1 (.r 3 (.r 8 (.e 4 true (.e 9 false (.q 10 (.e 11 false .nil)))))))))))) (by kernel_rfl) (by kernel_rfl) (Imp.refl _) ?_
    first|refine Zim rfl (Zl5 (n := 1) rfl rfl) ?_|refine Zim rfl (Zl3 (n := 1) rfl rfl) ?_
    first|refine Zim rfl (Zl5 (n := 2) rfl rfl) ?_|refine Zim rfl (Zl3 (n := 2) rfl rfl) ?_
    refine W2 ?_
    first|refine Zim rfl (Zl5 (n := 2 * k + 1) rfl (int_eq (by push_cast; omega))) ?_|refine Zim rfl (Zl3 (n := 2 * k + 1) rfl (int_eq (by push_cast; omega))) ?_
    refine W2 ?_
    refine Ziv rfl rfl qH (ht2) ?_
    refine Ziq rfl ?_
    refine Zh8 rfl (by kernel_rfl) (againstR_x q _) rfl qT ?_
    rintro _ _ ⟨rfl, rfl⟩
    refine Y1 ?_
    refine Zg3 ⟨fun _ => Imp.arr qV, ?_⟩
    refine Ziq rfl ?_
    refine Zh8 rfl (by kernel_rfl) (leftR_x _ _ (tB_ok k)) rfl qT ?_
    rintro _ _ ⟨rfl, rfl⟩
    refine Y1 ?_
    refine Zg3 ⟨(fun hh => Bool.noConfusion hh), ?_⟩
    first|refine Zim rfl (Zl5 (n := 1) rfl rfl) ?_|refine Zim rfl (Zl3 (n := 1) rfl rfl) ?_
    refine Ziq rfl ?_
    refine Y1 ?_
    refine Zg3 ⟨(fun hh => Bool.noConfusion hh), ?_⟩
    refine Zik ?_
    refine V5 ?_
    refine Zgl (k + 1) qO (by omega) (by rw [hs]; unfold hrW; exact qI) ⟨by rw [show 2 * (k + 1) = 2 * k + 2 by omega]; rfl, trivial⟩
  · have hie : k = 2 := by omega
    subst hie
    rw [hq2]
    refine Y2 ?_
    first|refine Zhy rfl rfl qR qZ qN qZ ?_|refine Zhx rfl rfl qR qZ qN qZ rfl ?_
    refine V1 ?_
    refine rx1 (Zhe rfl qH qZ (Zg7)) ?_
    exact ⟨_, ⟨rfl, rfl⟩, by exact Imp.arr (by repeat (first|exact Arr.nil|exact Arr.stop|refine Arr.cons (by repeat constructor) ?_|refine Arr.skip ?_))⟩
theorem bytesR_x {L : List Asrt} (v : BitVec 64) (n : Nat) (hn : n ≤ 8) : Con Tryz.prog 169 [u64b v, nvv n] L (fun r M => ∃ a c, r = .slice a (leB v n).length c ∧ M = own 5 1 r (leB v n).length ((leB v n).map u8b) :: L) := by
  refine fn_x Tryz.func169 rfl rfl rfl Tryz.mixed (by kernel_rfl) ?_
  intro w0
  refine V9 ?_
  refine Zgo [(0, 0), (5, 19)] (by kernel_rfl) (fun s : Nat × Option Addr × Nat => s.1 ≤ n) (fun s => own 5 1 (.slice s.2.1 (leB v s.1).length s.2.2) (leB v s.1).length ((leB v s.1).map u8b) :: L)
    (fun s => [(0, u64b (v >>> (8 * s.1))), (6, nvv s.1), (5, .slice s.2.1 (leB v s.1).length s.2.2)]) (fun s => n - s.1) (0, none, 0) (by show 0 ≤ _; omega) (Imp.own_nil) ⟨by show u64b v = u64b (v >>> 0); rw [BitVec.ushiftRight_zero], rfl, rfl, trivial⟩ ?_
  rintro ⟨i, a, c⟩ u hi
  dsimp only at hi ⊢
  have hll := leB_len v i
  refine V5 ?_
  refine Zgg rfl (fun hB => ?_) (fun hB => ?_)
  · refine Y3 ?_
    refine Zhg (Zlu (y := 256#64) rfl rfl (by decide)) ?_
    refine Zhg (Zlx rfl) ?_
    refine Zh7 (cs := #[.int .u8 _]) (by omega) (by omega) rfl ?_; intro b16
    refine Zia rfl rfl qH (Rd.cl (xs := [u8b ((v >>> (8 * i) % 256#64).setWidth 8)]) qH rfl qZ rfl) qN (by omega) qS ?_; intro a3 c3
    refine V2 ?_
    have e2 : (leB v i).map u8b ++ [u8b ((v >>> (8 * i) % 256#64).setWidth 8)] = (leB v (i + 1)).map u8b := by rw [leB_succ, byteRem]; simp only [List.map_append, List.map_cons, List.map_nil]
    have e3 : (leB v i).length + 1 = (leB v (i + 1)).length := by rw [leB_len, leB_len]
    rw [e2, e3]
    refine Y2 ?_
    refine Zhg (Zlt (y := 256#64) rfl rfl (by decide)) ?_
    refine V7 ?_
    exact Zgl (i + 1, a3, c3) qO qO qI ⟨by show u64b _ = u64b _; rw [byteQuo, ← BitVec.shiftRight_add]; rfl, rfl, rfl, trivial⟩
  · have hie : i = n := by omega
    subst hie
    refine V4 ?_
    refine rx1 (Zhc rfl (Zg7)) ?_
    exact ⟨_, ⟨a, c, rfl, rfl⟩, qI⟩
theorem littleR_x {L : List Asrt} {v : Value} {b : List Byte} (h : Bs L v b) (hb : b.length ≤ 140737488351232) : Con Tryz.prog 192 [v, nvv b.length] L (fun r M => r = .tuple #[u64b (BitVec.ofNat 64 (leN b)), nvv 0] ∧ L = M) := by
  refine Con.get (fun w0 w F H => h.sh _ _ _ H) ?_
  rintro ⟨va, vc, rfl, hvc, hvcm⟩
  refine fn_x Tryz.func192 rfl rfl rfl Tryz.mixed (by kernel_rfl) ?_
  intro w0
  refine Y9 ?_
  refine Zhn 11 rfl (decide_eq_false (by omega)) ?_
  refine Y7 ?_
  refine Zhn 15 rfl (decide_eq_false (by omega)) ?_
  refine Y7 ?_
  refine Zhg (Zbh (b := 1) rfl rfl (by omega)) ?_
  refine V2 ?_
  refine Zgo [(6, 7), (18, 29)] (by kernel_rfl) (fun i : Nat => i ≤ b.length) (fun _ => L) (fun i => [(6, u64b (BitVec.ofNat 64 (leN (b.drop i)))), (7, .int .i64 ((i : Int) - 1))]) (fun i => i) b.length (by omega) qI ⟨by rw [List.drop_length]; rfl, rfl, trivial⟩ ?_
  intro i u hi
  refine Y2 ?_
  refine Zhg (Zbq (b := 0) rfl rfl) ?_
  refine V1 ?_
  refine Zgg rfl (fun hB => ?_) (fun hB => ?_)
  · obtain ⟨j, rfl⟩ : ∃ j, i = j + 1 := ⟨i - 1, by omega⟩
    have hj : j < b.length := by omega
    refine Zgt (fun F w H => h.some (by omega) H) ?_
    rintro ⟨a1, a2, rfl⟩
    refine Y2 ?_
    refine Zhg (Zle (y := 256#64) rfl rfl) ?_
    refine Y2 ?_
    first|refine Zhg (Zl4 (n := j) rfl (int_eq (by push_cast; omega))) ?_|refine Zhg (Zl1 (n := j) rfl (int_eq (by push_cast; omega))) ?_
    refine Zff rfl (h.rd.at hj (getM hj)) ?_
    refine Zhg (Zjx rfl) ?_
    refine Y5 ?_
    refine Zhg (Zbh (b := 1) rfl rfl (by omega)) ?_
    refine V2 ?_
    exact Zgl j qO (by omega) qI ⟨by show u64b _ = u64b _; rw [numStep, List.drop_eq_getElem_cons hj]; rfl, int_eq (by omega), trivial⟩
  · have hie : i = 0 := by omega
    subst hie
    rw [List.drop_zero]
    refine V5 ?_
    refine rx2 (Zg9 rfl (Zg9 rfl (Zg7))) ?_
    exact ⟨_, ⟨rfl, rfl⟩, by exact Imp.arr (by repeat (first|exact Arr.nil|exact Arr.stop|refine Arr.cons (by repeat constructor) ?_|refine Arr.skip ?_))⟩
theorem numR_x {L : List Asrt} {v : Value} {b : List Byte} (h : Bs L v b) (hb : b.length = 4) : Con Tryz.prog 189 [v] L (fun r M => r = w64 (lowB 32 b) ∧ L = M) := by
  refine Con.get (fun w0 w F H => h.sh _ _ _ H) ?_
  rintro ⟨va, vc, rfl, hvc, hvcm⟩
  refine fn_x Tryz.func189 rfl rfl rfl Tryz.mixed (by kernel_rfl) ?_
  intro w0
  refine Y7 ?_
  refine Zh8 rfl (by kernel_rfl) (littleR_x h (by omega)) rfl qT ?_
  rintro _ _ ⟨rfl, rfl⟩
  refine V7 ?_
  rw [num32 b hb]
  refine V4 ?_
  refine rx1 (Zg9 rfl (Zg7)) ?_
  exact ⟨_, ⟨rfl, rfl⟩, by exact Imp.arr (by repeat (first|exact Arr.nil|exact Arr.stop|refine Arr.cons (by repeat constructor) ?_|refine Arr.skip ?_))⟩
end Go.Sl

/- the statements' small helpers: lists with marked room behind them. -/
set_option maxHeartbeats 4000000
set_option maxRecDepth 10000
set_option linter.unusedVariables false
set_option linter.unusedSimpArgs false
namespace Go.Sl
open Go Go.Proofs
attribute [local irreducible] pt pur ex all den denOps denS xOps xC cX CX xthen xblk xcut xloop xng retX resX Calls PV Rd Con
def markB (i : Nat) : Byte := BitVec.ofInt 8 (IntKind.i64.wrap ((BitVec.ofInt IntKind.i64.bits 165 ^^^ BitVec.ofInt IntKind.i64.bits (i : Int)).toNat : Int))
def spF (l : List Byte) (j : Nat) : Byte := if j < l.length then l.getD j 0#8 else markB j
def spareL (l : List Byte) : List Byte := (List.range (l.length + 80)).map (spF l)
def uptoT (N : Nat) (f : Nat → Byte) (i : Nat) : List Byte := (List.range N).map fun j => if j < i then f j else 0#8
theorem uptoT_len (N : Nat) (f : Nat → Byte) (i : Nat) : (uptoT N f i).length = N := by simp [uptoT]
theorem uptoT_set (N : Nat) (f : Nat → Byte) (i : Nat) : (uptoT N f i).set i (f i) = uptoT N f (i + 1) := by
  apply List.ext_getElem (by simp [uptoT])
  intro j h1 h2
  simp only [uptoT, List.getElem_set, List.getElem_map, List.getElem_range]
  by_cases e : i = j
  · subst e; rw [if_pos rfl, if_pos (by omega)]
  · rw [if_neg e]
    by_cases h : j < i
    · rw [if_pos h, if_pos (by omega)]
    · rw [if_neg h, if_neg (by omega)]
theorem uptoT_zero (N : Nat) (f : Nat → Byte) : uptoT N f 0 = List.replicate N 0#8 := by
  apply List.ext_getElem (by simp [uptoT])
  intro j h1 h2
  simp [uptoT]
theorem uptoT_end (N : Nat) (f : Nat → Byte) : uptoT N f N = (List.range N).map f := by
  apply List.map_congr_left
  intro j hj
  rw [if_pos (by simpa using hj)]
theorem spareL_len (l : List Byte) : (spareL l).length = l.length + 80 := by simp [spareL]
theorem spareL_get (l : List Byte) (j : Nat) (h : j < l.length + 80) : (spareL l)[j]'(by rw [spareL_len]; exact h) = spF l j := by simp [spareL]
theorem spareL_take (l : List Byte) : (spareL l).take l.length = l := by
  apply List.ext_getElem (by rw [List.length_take, spareL_len]; omega)
  intro j h1 h2
  rw [List.getElem_take, spareL_get l j (by omega), spF, if_pos h2, List.getD_eq_getElem?_getD, List.getElem?_eq_getElem h2]; rfl
/-- A list that Spare made. -/
theorem bs_spare {M M' : List Asrt} {g : Nat} {l : List Byte} (hm : Has M (cl g ((spareL l).map u8b).toArray 5) M') (hl : l.length ≤ 140737488355328) : Bs M (.slice (some ⟨g, 0, none⟩) l.length (l.length + 80)) l :=
  Bs.cl (o := 0) hm (by rw [szL, spareL_len]; omega) (by
    simp only [Array.toList_extract, List.extract_eq_take_drop]
    rw [Nat.zero_add, Nat.sub_zero, List.drop_zero, ← List.map_take, spareL_take]) (by omega) (by omega)
theorem spare_x {L : List Asrt} {v : Value} {l : List Byte} (h : Bs L v l) (hl : l.length ≤ 140737488355328) : Con Tryz.prog 42 [v] L (fun r M => ∃ g, r = .slice (some ⟨g, 0, none⟩) l.length (l.length + 80) ∧ M = cl g ((spareL l).map u8b).toArray 5 :: L) := by
  refine Con.get (fun w0 w F H => h.sh _ _ _ H) ?_
  rintro ⟨aa, ac, rfl, hac, hacm⟩
  refine fn_x Tryz.func42 rfl rfl rfl Tryz.mixed (by kernel_rfl) ?_
  intro w0
  refine Y7 ?_
  refine Zm3 (f := u8b) (a := 0#8) rfl rfl rfl qS qS qS ?_; intro b8
  refine V5 ?_
  refine Zgo [(4, 4), (9, 31)] (by kernel_rfl) (fun i : Nat => i ≤ l.length + 80) (fun i => cl b8 ((uptoT (l.length + 80) (spF l) i).map u8b).toArray 5 :: L)
    (fun i => [(4, .int .i64 (i : Int))]) (fun i => l.length + 80 - i) 0 (by omega) (by rw [uptoT_zero]; exact Imp.arr (by repeat (first|exact Arr.nil|exact Arr.stop|refine Arr.cons (by repeat constructor) ?_|refine Arr.skip ?_))) ⟨rfl, trivial⟩ ?_
  intro i u hi
  have hul := uptoT_len (l.length + 80) (spF l) i
  refine V6 ?_
  refine Zgg rfl (fun hB => ?_) (fun hB => ?_)
  · refine V6 ?_
    refine Zgg rfl (fun hC => ?_) (fun hC => ?_)
    · have e : spF l i = l[i] := by rw [spF, if_pos hC, List.getD_eq_getElem?_getD, List.getElem?_eq_getElem hC]; rfl
      refine Zgt (fun F w H => (h.imp qI).some (by omega) H) ?_
      rintro ⟨a1, a2, rfl⟩
      refine Y6 ?_
      refine Zic (j := i) rfl (h.rd.imp qI) hC (getM (f := u8b) hC) ?_
      refine Y1 ?_
      refine Zht rfl rfl qR qZ (setL (f := u8b) (l := uptoT (l.length + 80) (spF l) i)) ?_
      refine V1 ?_
      rw [← e, uptoT_set]
      refine V5 ?_
      exact Zgl (i + 1) qO qO qI ⟨rfl, trivial⟩
    · have e : spF l i = markB i := by rw [spF, if_neg hC]
      refine Y4 ?_
      first|refine Zhg (pv_xorn (a := 165) rfl rfl) ?_|refine Zhg (Zbw rfl rfl) ?_
      refine Zhg (Zjs rfl) ?_
      refine Y1 ?_
      refine Zht rfl rfl qR qZ (setL (f := u8b) (l := uptoT (l.length + 80) (spF l) i)) ?_
      refine V1 ?_
      rw [show BitVec.ofInt 8 (IntKind.i64.wrap ((BitVec.ofInt IntKind.i64.bits 165 ^^^ BitVec.ofInt IntKind.i64.bits (i : Int)).toNat : Int)) = spF l i from e.symm, uptoT_set]
      refine V5 ?_
      exact Zgl (i + 1) qO qO qI ⟨rfl, trivial⟩
  · have hie : i = l.length + 80 := by omega
    subst hie
    rw [uptoT_end]
    refine Y4 ?_
    refine Zhg (Zm0 rfl rfl) ?_
    refine V2 ?_
    refine rx1 (Zhc rfl (Zg7)) ?_
    exact ⟨_, ⟨b8, rfl, rfl⟩, by exact Imp.arr (by repeat (first|exact Arr.nil|exact Arr.stop|refine Arr.cons (by repeat constructor) ?_|refine Arr.skip ?_))⟩
theorem kept_r {L : List Asrt} {g : Nat} {vw : Value} {w : List Byte} (hrd : Rd L 1 (.slice (some ⟨g, 0, none⟩) (w.length + 80) (w.length + 80)) (w.length + 80) ((spareL w).map u8b)) (hb : Bs L (.slice (some ⟨g, 0, none⟩) w.length (w.length + 80)) w) (hw : Bs L vw w) (hl : w.length ≤ 140737488355328) :
    Con Tryz.prog 44 [.slice (some ⟨g, 0, none⟩) w.length (w.length + 80), vw] L (fun r M => r = .bool true ∧ L = M) := by
  refine Con.get (fun w0 w F H => hw.sh _ _ _ H) ?_
  rintro ⟨ba, bc, rfl, hbc, hbcm⟩
  have hsl := spareL_len w
  refine fn_x Tryz.func44 rfl rfl rfl Tryz.mixed (by kernel_rfl) ?_
  intro w0
  refine Y6 ?_
  refine Zh8 rfl (by kernel_rfl) (eqBytes_x hb hw) rfl qT ?_
  rintro _ _ ⟨rfl, rfl⟩
  refine Y2 ?_
  refine Zhn 10 rfl (by simp) ?_
  refine Y7 ?_
  refine Zhg (Zm0 (h := w.length + 80) rfl rfl (by omega)) ?_
  refine V7 ?_
  refine Zgo [(4, 4), (6, 6), (18, 31)] (by kernel_rfl) (fun i : Nat => w.length ≤ i ∧ i ≤ w.length + 80) (fun _ => L) (fun i => [(6, .int .i64 (i : Int))]) (fun i => w.length + 80 - i) w.length (by omega) (Imp.refl _) ⟨rfl, trivial⟩ ?_
  rintro i u ⟨hi0, hi⟩
  refine V6 ?_
  refine Zgg rfl (fun hB => ?_) (fun hB => ?_)
  · have hg : ((spareL w).map u8b)[i]? = some (u8b (markB i)) := by
      rw [getM (by omega), spareL_get w i hB, spF, if_neg (by omega)]
    refine Y4 ?_
    refine Zm6 (j := i) rfl hrd hB hg ?_
    refine Y1 ?_
    first|refine Zhg (pv_xorn (a := 165) rfl rfl) ?_|refine Zhg (Zbw rfl rfl) ?_
    refine Zhg (Zjs rfl) ?_
    refine Zhg (Zjl (x := markB i) (y := markB i) rfl rfl) ?_
    refine Zhn 31 rfl (decide_eq_false (fun h => h rfl)) ?_
    refine V7 ?_
    exact Zgl (i + 1) qO ⟨by omega, by omega⟩ qI ⟨rfl, trivial⟩
  · refine V3 ?_
    refine rx1 (Zha rfl (Zg7)) ?_
    exact ⟨_, ⟨rfl, rfl⟩, by exact Imp.arr (by repeat (first|exact Arr.nil|exact Arr.stop|refine Arr.cons (by repeat constructor) ?_|refine Arr.skip ?_))⟩
theorem rd_spare {L L' : List Asrt} {g : Nat} {w : List Byte} (hm : Has L (cl g ((spareL w).map u8b).toArray 5) L') : Rd L 1 (.slice (some ⟨g, 0, none⟩) (w.length + 80) (w.length + 80)) (w.length + 80) ((spareL w).map u8b) := by
  have hsl := spareL_len w
  exact Rd.cl (o := 0) hm (by simp [hsl]) (by rw [szL]; omega) (by simp only [Array.toList_extract, List.extract_eq_take_drop, Nat.zero_add, Nat.mul_one, Nat.sub_zero, List.drop_zero]; exact List.take_of_length_le (by simp [hsl]))
theorem kept_x {L L' : List Asrt} {g : Nat} {vw : Value} {w : List Byte} (hm : Has L (cl g ((spareL w).map u8b).toArray 5) L') (hw : Bs L vw w) (hl : w.length ≤ 140737488355328) :
    Con Tryz.prog 44 [.slice (some ⟨g, 0, none⟩) w.length (w.length + 80), vw] L (fun r M => r = .bool true ∧ L = M) := kept_r (rd_spare hm) (bs_spare hm hl) hw hl
end Go.Sl

/- the statements' small helpers: lists joined. -/
set_option maxHeartbeats 4000000
set_option maxRecDepth 10000
set_option linter.unusedVariables false
set_option linter.unusedSimpArgs false
namespace Go.Sl
open Go Go.Proofs
attribute [local irreducible] pt pur ex all den denOps denS xOps xC cX CX xthen xblk xcut xloop xng retX resX Calls PV Rd Con
def joinB (ps : List (Value × List Byte)) : List Byte := (ps.map (·.2)).flatten
theorem joinB_succ (ps : List (Value × List Byte)) (i : Nat) (h : i < ps.length) : joinB (ps.take (i + 1)) = joinB (ps.take i) ++ ps[i].2 := by
  rw [List.take_succ_eq_append_getElem h]; simp only [joinB, List.map_append, List.flatten_append, List.map_cons, List.map_nil, List.flatten_cons, List.flatten_nil, List.append_nil]
theorem joinB_le (ps : List (Value × List Byte)) (i : Nat) : (joinB (ps.take i)).length ≤ (joinB ps).length := by
  have e : joinB ps = joinB (ps.take i) ++ joinB (ps.drop i) := by
    simp only [joinB, ← List.flatten_append, ← List.map_append, List.take_append_drop]
  rw [e]; simp
theorem join_x {L : List Asrt} {v : Value} {ps : List (Value × List Byte)} (h : Rs L v ps) (hl : (joinB ps).length ≤ 140737488355328) : Con Tryz.prog 60 [v] L (fun r M => ∃ a c, r = .slice a (joinB ps).length c ∧ M = own 5 1 r (joinB ps).length ((joinB ps).map u8b) :: L) := by
  refine Con.get (fun w0 w F H => h.sh _ _ _ H) ?_
  rintro ⟨aa, ac, rfl, hac, hacm⟩
  refine fn_x Tryz.func60 rfl rfl rfl Tryz.mixed (by kernel_rfl) ?_
  intro w0
  refine V9 ?_
  refine Zgo [(3, 30)] (by kernel_rfl) (fun s : Nat × Option Addr × Nat × Nat => s.1 ≤ ps.length ∧ s.2.2.2 = (joinB (ps.take s.1)).length) (fun s => own 5 1 (.slice s.2.1 s.2.2.2 s.2.2.1) s.2.2.2 ((joinB (ps.take s.1)).map u8b) :: L)
    (fun s => [(4, .int .i64 (s.1 : Int)), (3, .slice s.2.1 s.2.2.2 s.2.2.1)]) (fun s => ps.length - s.1) (0, none, 0, 0) ⟨Nat.zero_le _, rfl⟩ Imp.own_nil ⟨rfl, rfl, trivial⟩ ?_
  rintro ⟨i, a, c, n⟩ u ⟨hi, hn⟩
  dsimp only at hi hn ⊢
  have hnl : n ≤ (joinB ps).length := by rw [hn]; exact joinB_le ps i
  refine V6 ?_
  refine Zgg rfl (fun hB => ?_) (fun hB => ?_)
  · have hel := h.el _ (List.getElem_mem hB)
    refine Zgt (fun F w H => (h.rd.imp qI).someAt (by omega) H) ?_
    rintro ⟨a1, a2, rfl⟩
    refine Zgt (fun F w H => (hel.imp qI).sh _ _ _ H) ?_
    rintro ⟨ea, ec, hev, hecl, hecm⟩
    generalize hrow : ps[i].2 = row at hel hev hecl
    have htot : (joinB (ps.take i)).length + row.length ≤ (joinB ps).length := by
      have h1 := joinB_le ps (i + 1)
      rw [joinB_succ ps i hB, List.length_append, hrow] at h1; exact h1
    have hgi : (ps.map (·.1))[i]? = some (.slice ea row.length ec) := by simp [hB, hev]
    refine V3 ?_
    refine Zgo [(3, 3), (5, 5), (12, 30)] (by kernel_rfl) (fun s : Nat × Option Addr × Nat × Nat => s.1 ≤ row.length ∧ s.2.2.2 = n + s.1) (fun s => own 5 1 (.slice s.2.1 s.2.2.2 s.2.2.1) s.2.2.2 ((joinB (ps.take i) ++ row.take s.1).map u8b) :: L)
      (fun s => [(5, .int .i64 (s.1 : Int)), (3, .slice s.2.1 s.2.2.2 s.2.2.1)]) (fun s => row.length - s.1) (0, a, c, n) ⟨Nat.zero_le _, rfl⟩ (by dsimp only; rw [List.take_zero, List.append_nil]; exact Imp.refl _) ⟨rfl, rfl, trivial⟩ ?_
    rintro ⟨k, a', c', n'⟩ u' ⟨hk, hn'⟩
    dsimp only at hk hn' ⊢
    refine Y5 ?_
    refine Zic (j := i) rfl (h.rd.imp qI) hB hgi ?_
    refine V3 ?_
    refine Zgg rfl (fun hK => ?_) (fun hK => ?_)
    · refine Zgt (fun F w H => (by rw [hev] at hel; exact (hel.imp qI).some (by omega) H)) ?_
      rintro ⟨e1, e2, rfl⟩
      rw [hev] at hel
      refine Y5 ?_
      refine Zic (j := i) rfl (h.rd.imp qI) hB hgi ?_
      refine Y2 ?_
      refine Zic (j := k) rfl (hel.rd.imp qI) hK (getM (f := u8b) hK) ?_
      refine Zh7 (cs := #[.int .u8 _]) (by omega) (by omega) rfl ?_; intro b29
      refine Zia rfl rfl qH (Rd.cl (xs := [u8b row[k]]) qH rfl qZ rfl) qN (by omega) qS ?_; intro a3 c3
      refine V7 ?_
      refine Zgl (k + 1, a3, c3, n' + 1) qO ⟨by dsimp only; omega, by dsimp only; omega⟩ ?_ ⟨rfl, rfl, trivial⟩
      dsimp only
      rw [app_take_succ _ hK]
      exact Imp.arr (by repeat (first|exact Arr.nil|exact Arr.stop|refine Arr.cons (by repeat constructor) ?_|refine Arr.skip ?_))
    · have hke : k = row.length := by omega
      subst hke
      rw [List.take_length]
      refine V5 ?_
      refine Zgl (i + 1, a', c', n') qO ⟨by dsimp only; omega, by dsimp only; rw [joinB_succ ps i hB, List.length_append, hrow]; omega⟩ ?_ ⟨rfl, rfl, trivial⟩
      dsimp only
      rw [joinB_succ ps i hB, hrow]
      exact Imp.arr (by repeat (first|exact Arr.nil|exact Arr.stop|refine Arr.cons (by repeat constructor) ?_|refine Arr.skip ?_))
  · have hie : i = ps.length := by omega
    subst hie
    rw [List.take_length] at hn
    rw [List.take_length]
    subst hn
    refine V4 ?_
    refine rx1 (Zhc rfl (Zg7)) ?_
    exact ⟨_, ⟨a, c, rfl, rfl⟩, by exact Imp.arr (by repeat (first|exact Arr.nil|exact Arr.stop|refine Arr.cons (by repeat constructor) ?_|refine Arr.skip ?_))⟩
theorem two_x {L : List Asrt} {va vb : Value} {a b : List Byte} (ha : Bs L va a) (hb : Bs L vb b) (hl : (a ++ b).length ≤ 140737488355328) : Con Tryz.prog 27 [va, vb] L (fun r M => ∃ x c, r = .slice x (a ++ b).length c ∧ M = own 5 1 r (a ++ b).length ((a ++ b).map u8b) :: L) := by
  refine Con.get (fun w0 w F H => ha.sh _ _ _ H) ?_
  rintro ⟨aa, ac, rfl, hac, hacm⟩
  refine Con.get (fun w0 w F H => hb.sh _ _ _ H) ?_
  rintro ⟨ba, bc, rfl, hbc, hbcm⟩
  have e : joinB [(.slice aa a.length ac, a), (.slice ba b.length bc, b)] = a ++ b := by simp [joinB]
  refine fn_x Tryz.func27 rfl rfl rfl Tryz.mixed (by kernel_rfl) ?_
  intro w0
  refine Y6 ?_
  refine Zh7 (cs := #[.slice _ _ _, .slice _ _ _]) (by omega) (by omega) rfl ?_; intro b7
  refine Zh8 rfl (by kernel_rfl) (join_x (L := cl b7 #[.slice aa a.length ac, .slice ba b.length bc] 33 :: L) (ps := [(.slice aa a.length ac, a), (.slice ba b.length bc, b)]) (Rs.cl (o := 0) qH (by simp) rfl (by simp) (by simp) (by intro x hx; simp only [List.mem_cons, List.not_mem_nil, or_false] at hx; rcases hx with rfl|rfl; exact ha.imp Imp.tail; exact hb.imp Imp.tail)) (by rw [e]; exact hl)) rfl qT ?_
  rintro _ _ ⟨x, c, rfl, rfl⟩
  refine V3 ?_
  rw [e]
  refine rx1 (Zhc rfl (Zg7)) ?_
  exact ⟨_, ⟨x, c, rfl, rfl⟩, by exact Imp.arr (by repeat (first|exact Arr.nil|exact Arr.stop|refine Arr.cons (by repeat constructor) ?_|refine Arr.skip ?_))⟩
end Go.Sl

/- the statements' small helpers: numbers as bytes, the lowest first; a list copied into noughts. -/
set_option maxHeartbeats 4000000
set_option maxRecDepth 10000
set_option linter.unusedVariables false
set_option linter.unusedSimpArgs false
namespace Go.Sl
open Go Go.Proofs
attribute [local irreducible] pt pur ex all den denOps denS xOps xC cX CX xthen xblk xcut xloop xng retX resX Calls PV Rd Con
theorem leB_wide (x : BitVec 32) (n : Nat) : leB (x.setWidth 64) n = leB x n := by
  unfold leB
  apply List.map_congr_left
  intro i _
  apply BitVec.eq_of_getLsbD_eq
  intro j hj
  simp only [BitVec.getLsbD_setWidth, BitVec.getLsbD_ushiftRight, hj, decide_true, Bool.true_and]
  by_cases h : 8 * i + j < 64
  · simp [h]
  · simp [h]; exact (BitVec.getLsbD_of_ge x (8 * i + j) (by omega))
theorem little_x {L : List Asrt} (v : BitVec 64) (n : Nat) (hn : n ≤ 16) : Con Tryz.prog 28 [u64b v, nvv n] L (fun r M => ∃ a c, r = .slice a (leB v n).length c ∧ M = own 5 1 r (leB v n).length ((leB v n).map u8b) :: L) := by
  refine fn_x Tryz.func28 rfl rfl rfl Tryz.mixed (by kernel_rfl) ?_
  intro w0
  refine V9 ?_
  refine Zgo [(5, 19)] (by kernel_rfl) (fun s : Nat × Option Addr × Nat => s.1 ≤ n) (fun s => own 5 1 (.slice s.2.1 (leB v s.1).length s.2.2) (leB v s.1).length ((leB v s.1).map u8b) :: L)
    (fun s => [(6, nvv s.1), (5, .slice s.2.1 (leB v s.1).length s.2.2)]) (fun s => n - s.1) (0, none, 0) (by show 0 ≤ _; omega) (Imp.own_nil) ⟨rfl, rfl, trivial⟩ ?_
  rintro ⟨i, a, c⟩ u hi
  dsimp only at hi ⊢
  have hll := leB_len v i
  refine V5 ?_
  refine Zgg rfl (fun hB => ?_) (fun hB => ?_)
  · refine Y4 ?_
    first|refine Zhg (Zmc (a := 8) rfl rfl) ?_|refine Zhg (Zbi rfl rfl) ?_
    refine Zhg (Zlk rfl rfl) ?_
    refine Zhg (Zlx rfl) ?_
    refine Zh7 (cs := #[.int .u8 _]) (by omega) (by omega) rfl ?_; intro b18
    refine Zia rfl rfl qH (Rd.cl (xs := [u8b ((v >>> (8 * i)).setWidth 8)]) qH rfl qZ rfl) qN (by omega) qS ?_; intro a3 c3
    refine V2 ?_
    have e2 : (leB v i).map u8b ++ [u8b ((v >>> (8 * i)).setWidth 8)] = (leB v (i + 1)).map u8b := by rw [leB_succ]; simp only [List.map_append, List.map_cons, List.map_nil]
    have e3 : (leB v i).length + 1 = (leB v (i + 1)).length := by rw [leB_len, leB_len]
    rw [e2, e3]
    refine V5 ?_
    exact Zgl (i + 1, a3, c3) qO qO qI ⟨rfl, rfl, trivial⟩
  · have hie : i = n := by omega
    subst hie
    refine V4 ?_
    refine rx1 (Zhc rfl (Zg7)) ?_
    exact ⟨_, ⟨a, c, rfl, rfl⟩, qI⟩
/-- A list copied into one of noughts, up to a place. -/
def cpK (l : List Byte) (n i : Nat) : List Byte := l.take i ++ List.replicate (n - i) 0#8
theorem cpK_len (l : List Byte) (n i : Nat) (hi : i ≤ n) (hl : i ≤ l.length) : (cpK l n i).length = n := by simp [cpK]; omega
theorem cpK_set (l : List Byte) (n i : Nat) (hi : i < n) (hl : i < l.length) : (cpK l n i).set i l[i] = cpK l n (i + 1) := by
  unfold cpK
  rw [List.set_append_right _ _ (by simp; omega), List.length_take, Nat.min_eq_left (by omega), Nat.sub_self, show n - i = (n - (i + 1)) + 1 by omega, List.replicate_succ, List.set_cons_zero, List.take_succ_eq_append_getElem hl, List.append_assoc]; rfl
theorem cpK_end (l : List Byte) (n : Nat) (hl : n ≤ l.length) : cpK l n n = l.take n := by simp [cpK]
end Go.Sl

/- the document's key stream: words, state, places, a block, walked. -/
set_option maxHeartbeats 4000000
set_option maxRecDepth 10000
set_option linter.unusedVariables false
set_option linter.unusedSimpArgs false
namespace Go.Sl
open Go Go.Proofs
attribute [local irreducible] pt pur ex all den denOps denS xOps xC cX CX xthen xblk xcut xloop xng retX resX Calls PV Rd Con
theorem x_own {P : Program} {w0 : World} {c : Code} {ρ : Env} {Q : XQ} {E n cp : Nat} {a : Option Addr} {xs : List Value} {M M' : List Asrt} (hm : Has M (own E 1 (.slice a n cp) n xs) M') (hn : 0 < n)
    (k : ∀ g rest, a = some ⟨g, 0, none⟩ → n ≤ cp → cp ≤ 9223372036854775807 → rest.length + n = cp → xC P w0 c ρ (cl g (xs ++ rest).toArray E :: M') Q) : xC P w0 c ρ M Q := by
  refine Zgu (α := { p : Nat × List Value // a = some ⟨p.1, 0, none⟩ ∧ n ≤ cp ∧ cp ≤ 9223372036854775807 ∧ p.2.length + n = cp }) (A := fun p => cl p.val.1 (xs ++ p.val.2).toArray E :: M') ?_ (fun p => k p.val.1 p.val.2 p.property.1 p.property.2.1 p.property.2.2.1 p.property.2.2.2)
  intro F w H
  rcases (H.pick (.there hm)).own_get with ⟨hv, rfl, _⟩|⟨g, cap, cur, hv, h2, h3, h4, h5, h6, H'⟩
  · omega
  · simp only [Value.slice.injEq] at hv
    obtain ⟨rfl, _, rfl⟩ := hv
    have e : cur = (xs ++ cur.toList.drop n).toArray := by
      rw [← h5, Nat.mul_one, List.take_append_drop]
    refine ⟨⟨(g, cur.toList.drop n), rfl, h2, h3, by rw [List.length_drop, Array.length_toList, h4]; omega⟩, ?_⟩
    dsimp only
    rw [← e]
    exact H'.swap
/-- The words of some bytes. -/
def wsB (b : List Byte) (n : Nat) : List Wd := (List.range n).map fun i => lowB 32 ((b.drop (4 * i)).take 4)
theorem wsB_len (b : List Byte) (n : Nat) : (wsB b n).length = n := by simp [wsB]
theorem wsB_succ (b : List Byte) (n : Nat) : wsB b (n + 1) = wsB b n ++ [lowB 32 ((b.drop (4 * n)).take 4)] := by simp [wsB, List.range_succ]
theorem stateW_ws (key : List Byte) (ctr : Wd) (nonce : List Byte) : stateW key ctr nonce = st0 ++ (wsB key 8 ++ (ctr :: wsB nonce 3)) := rfl
attribute [local irreducible] lowB wsB
theorem wordsR_x {L M' : List Asrt} {g E n m : Nat} {b : List Byte} (hm : Has L (cl g (b.map u8b).toArray E) M') (hb : b.length = m) (hmn : m = 4 * n) (hn : n ≤ 8) : Con Tryz.prog 179 [.slice (some ⟨g, 0, none⟩) m m] L (fun r M => ∃ a c, r = .slice a (wsB b n).length c ∧ M = own 24 1 r (wsB b n).length ((wsB b n).map w64) :: L) := by
  have h0 : wsB b 0 = [] := by unfold wsB; rfl
  refine fn_x Tryz.func179 rfl rfl rfl Tryz.mixed (by kernel_rfl) ?_
  intro w0
  refine V9 ?_
  refine Zgo [(3, 20)] (by kernel_rfl) (fun s : Nat × Option Addr × Nat => s.1 ≤ n) (fun s => own 24 1 (.slice s.2.1 (wsB b s.1).length s.2.2) (wsB b s.1).length ((wsB b s.1).map w64) :: L)
    (fun s => [(4, nvv (4 * s.1)), (3, .slice s.2.1 (wsB b s.1).length s.2.2)]) (fun s => n - s.1) (0, none, 0) (by show 0 ≤ _; omega) (by show Imp _ (own _ 1 (.slice none (wsB b 0).length 0) (wsB b 0).length ((wsB b 0).map w64) :: L); rw [h0]; exact Imp.own_nil) ⟨rfl, by show Value.slice none 0 0 = .slice none (wsB b 0).length 0; rw [h0]; rfl, trivial⟩ ?_
  rintro ⟨i, a, c⟩ u hi
  dsimp only at hi ⊢
  have hll := wsB_len b i
  refine V7 ?_
  refine Zgg rfl (fun hB => ?_) (fun hB => ?_)
  · have hB' : i < n := by omega
    refine Y6 ?_
    first|refine Zhg (Zna (l := 4 * i) (h := 4 * i + 4) rfl qB qB) ?_|refine Zhg (Zmz (l := 4 * i) (h := 4 * i + 4) rfl qB qB) ?_
    refine Zh8 rfl (by kernel_rfl) (numR_x (L := L) (b := (b.drop (4 * i)).take (4 * i + 4 - 4 * i)) (bs_piece (o := 4 * i) (n := 4 * i + 4 - 4 * i) (c := m - 4 * i) hm (by omega) (by omega) (by omega)) (by simp; omega)) rfl qT ?_
    rintro _ _ ⟨rfl, rfl⟩
    refine Y1 ?_
    refine Zh7 (cs := #[.int .u64 _]) (by omega) (by omega) rfl ?_; intro b19
    refine Zia rfl rfl qH (Rd.cl (xs := [w64 (lowB 32 ((b.drop (4 * i)).take (4 * i + 4 - 4 * i)))]) qH rfl qZ rfl) qN (by omega) qS ?_; intro a3 c3
    refine V2 ?_
    have e1 : 4 * i + 4 - 4 * i = 4 := by omega
    have e2 : (wsB b i).map w64 ++ [w64 (lowB 32 ((b.drop (4 * i)).take (4 * i + 4 - 4 * i)))] = (wsB b (i + 1)).map w64 := by rw [e1, wsB_succ]; simp only [List.map_append, List.map_cons, List.map_nil]
    have e3 : (wsB b i).length + 1 = (wsB b (i + 1)).length := by rw [wsB_len, wsB_len]
    rw [e2, e3]
    refine V5 ?_
    exact Zgl (i + 1, a3, c3) qO qO qI ⟨int_eq (by omega), rfl, trivial⟩
  · have hie : i = n := by omega
    subst hie
    refine V4 ?_
    refine rx1 (Zhc rfl (Zg7)) ?_
    exact ⟨_, ⟨a, c, rfl, rfl⟩, qI⟩
theorem stateR_x (key : List Byte) (ctr : Wd) (nonce : List Byte) (hk : key.length = 32) (hn : nonce.length = 12) : Con Tryz.prog 166 [.agg (key.map u8b).toArray, u32b ctr, .agg (nonce.map u8b).toArray] [] (fun r M => ∃ a c, r = .slice a 16 c ∧ M = [own 24 1 r 16 ((stateW key ctr nonce).map w64)]) := by
  have hl8 := wsB_len key 8
  have hl3 := wsB_len nonce 3
  refine fn_x Tryz.func166 rfl rfl rfl Tryz.mixed (by kernel_rfl) ?_
  intro w0
  refine Y1 ?_
  refine Zh5 rfl ?_; intro b3
  refine Zh5 rfl ?_; intro b5
  refine Y3 ?_
  refine Zh7 (cs := #[u64b 1634760805#64, u64b 857760878#64, u64b 2036477234#64, u64b 1797285236#64]) (by omega) (by omega) (by kernel_rfl) ?_; intro b8
  refine V2 ?_
  refine Zgp (Imp.own_mk (n := 4) (cap := 4) (size := 1) (xs := st0.map w64) (by omega) (by omega) rfl rfl) ?_
  refine Y2 ?_
  refine Zhg (Zmy (h := 32) rfl rfl) ?_
  refine Zh8 rfl (by kernel_rfl) (wordsR_x (L := [cl b3 (key.map u8b).toArray 23]) (b := key) (n := 8) .here hk rfl (by omega)) rfl qT ?_
  rintro _ _ ⟨xa, xc, rfl, rfl⟩
  refine Y1 ?_
  refine Zia rfl rfl qH (Rd.own qH) qN (by omega) qS ?_; intro a1 c1
  refine Y5 ?_
  refine Zhg (Zlb rfl) ?_
  refine Zh7 (cs := #[.int .u64 _]) (by omega) (by omega) rfl ?_; intro b16
  refine Zia rfl rfl qH (Rd.cl (xs := [w64 ctr]) qH rfl qZ rfl) qN (by omega) qS ?_; intro a2 c2
  refine Y4 ?_
  refine Zhg (Zmy (h := 12) rfl rfl) ?_
  refine Zh8 rfl (by kernel_rfl) (wordsR_x (L := [cl b5 (nonce.map u8b).toArray 63]) (b := nonce) (n := 3) .here hn rfl (by omega)) rfl qT ?_
  rintro _ _ ⟨ya, yc, rfl, rfl⟩
  refine Y1 ?_
  refine Zia rfl rfl qH (Rd.own qH) qN (by omega) qS ?_; intro a3 c3
  refine V2 ?_
  have e : st0.map w64 ++ (wsB key 8).map w64 ++ [w64 ctr] ++ (wsB nonce 3).map w64 = (stateW key ctr nonce).map w64 := by rw [stateW_ws]; simp only [List.map_append, List.map_cons, List.append_assoc, List.cons_append, List.nil_append]
  have e2 : 4 + (wsB key 8).length + 1 + (wsB nonce 3).length = 16 := by omega
  rw [e, e2]
  refine rx1 (Zhc rfl (Zg7)) ?_
  exact ⟨_, ⟨a3, c3, rfl, rfl⟩, qI⟩
end Go.Sl

/- the document's key stream: places, a block, walked. -/
set_option maxHeartbeats 4000000
set_option maxRecDepth 10000
set_option linter.unusedVariables false
set_option linter.unusedSimpArgs false
namespace Go.Sl
open Go Go.Proofs
attribute [local irreducible] pt pur ex all den denOps denS xOps xC cX CX xthen xblk xcut xloop xng retX resX Calls PV Rd Con
def plA : List Nat := [0, 4, 8, 12, 1, 5, 9, 13, 2, 6, 10, 14, 3, 7, 11, 15, 0, 5, 10, 15, 1, 6, 11, 12, 2, 7, 8, 13, 3, 4, 9, 14]
def qi (q : Quad) : Nat → Nat
  | 0 => q.1
  | 1 => q.2.1
  | 2 => q.2.2.1
  | _ => q.2.2.2
def ri (r : Wd × Wd × Wd × Wd) : Nat → Wd
  | 0 => r.1
  | 1 => r.2.1
  | 2 => r.2.2.1
  | _ => r.2.2.2
def putQ (s : List Wd) (q : Quad) (r : Wd × Wd × Wd × Wd) : Nat → List Wd
  | 0 => s
  | j + 1 => (putQ s q r j).set (qi q j) (ri r j)
theorem putQ_len (s : List Wd) (q : Quad) (r : Wd × Wd × Wd × Wd) (j : Nat) : (putQ s q r j).length = s.length := by
  induction j with
  | zero => rfl
  | succ j ih => rw [putQ, List.length_set, ih]
theorem putQ_at (s : List Wd) (q : Quad) : putQ s q (quarterW (s.getD (qi q 0) 0#32) (s.getD (qi q 1) 0#32) (s.getD (qi q 2) 0#32) (s.getD (qi q 3) 0#32)) 4 = qAt s q := rfl
theorem plA_at (k j : Nat) (hk : k < 8) (hj : j < 4) : plA[4 * k + j]? = some (qi (quadOf (k / 4) (k % 4)) j) := by
  have : ∀ k : Fin 8, ∀ j : Fin 4, plA[4 * k.val + j.val]? = some (qi (quadOf (k.val / 4) (k.val % 4)) j.val) := by decide
  exact this ⟨k, hk⟩ ⟨j, hj⟩
theorem plV_at (k j : Nat) (hk : k < 8) (hj : j < 4) : ((plA.map nvv).toArray)[4 * k + j]? = some (nvv (qi (quadOf (k / 4) (k % 4)) j)) := by
  simp [plA_at k j hk hj]
theorem qi_lt (k j : Nat) (hk : k < 8) (hj : j < 4) : qi (quadOf (k / 4) (k % 4)) j < 16 := by
  have : ∀ k : Fin 8, ∀ j : Fin 4, qi (quadOf (k.val / 4) (k.val % 4)) j.val < 16 := by decide
  exact this ⟨k, hk⟩ ⟨j, hj⟩
theorem ri_at (r : Wd × Wd × Wd × Wd) (j : Nat) (hj : j < 4) : (qcl r)[j]? = some (w64 (ri r j)) := by
  match j, hj with
  | 0, _ => rfl
  | 1, _ => rfl
  | 2, _ => rfl
  | 3, _ => rfl
theorem getR64 {l : List Wd} {rest : List Value} {i : Nat} (h : i < l.length) : ((l.map w64 ++ rest).toArray)[i]? = some (w64 (l.getD i 0#32)) := by
  rw [List.getElem?_toArray, List.getElem?_append_left (by simpa using h), List.getElem?_map, List.getElem?_eq_getElem h, List.getD_eq_getElem?_getD, List.getElem?_eq_getElem h]; rfl
theorem setR64 {l : List Wd} {rest : List Value} {i : Nat} {x : Wd} (h : i < l.length) : ((l.map w64 ++ rest).toArray).setIfInBounds i (w64 x) = ((l.set i x).map w64 ++ rest).toArray := by
  rw [List.setIfInBounds_toArray, List.set_append_left _ _ (by simpa using h), List.map_set]
theorem outW64_at (s f : List Wd) : ∀ (n i j : Nat), i < n → j < 4 → (outW64 s f n)[4 * i + j]? = (leB (sumW s f i) 4)[j]?
  | 0, i, j, h, _ => by omega
  | n + 1, i, j, h, hj => by
    rw [outW64_succ]
    by_cases e : i < n
    · rw [List.getElem?_append_left (by rw [outW64_len]; omega)]; exact outW64_at s f n i j e hj
    · have : i = n := by omega
      subst this
      rw [List.getElem?_append_right (by rw [outW64_len]; omega), outW64_len, Nat.add_sub_cancel_left]
theorem placesR_x : Con Tryz.prog 167 [] [] (fun r M => ∃ g, r = .slice (some ⟨g, 0, none⟩) 32 32 ∧ M = [cl g (plA.map nvv).toArray 3]) := by
  refine fn_x Tryz.func167 rfl rfl rfl Tryz.mixed (by kernel_rfl) ?_
  intro w0
  refine Y4 ?_
  refine Zh7 (cs := #[.int .i64 _, .int .i64 _, .int .i64 _, .int .i64 _, .int .i64 _, .int .i64 _, .int .i64 _, .int .i64 _, .int .i64 _, .int .i64 _, .int .i64 _, .int .i64 _, .int .i64 _, .int .i64 _, .int .i64 _, .int .i64 _, .int .i64 _, .int .i64 _, .int .i64 _, .int .i64 _, .int .i64 _, .int .i64 _, .int .i64 _, .int .i64 _, .int .i64 _, .int .i64 _, .int .i64 _, .int .i64 _, .int .i64 _, .int .i64 _, .int .i64 _, .int .i64 _]) (by omega) (by omega) rfl ?_; intro b1
  refine V2 ?_
  refine rx1 (Zhc rfl (Zg7)) ?_
  exact ⟨_, ⟨b1, rfl, rfl⟩, qI⟩
attribute [local irreducible] outW64 stateW twiceW iterW twiceN qAt quarterW plA putQ qi ri blockB leB cpK
theorem blockR_x (key : List Byte) (ctr : Wd) (nonce : List Byte) (hk : key.length = 32) (hn : nonce.length = 12) : Con Tryz.prog 153 [.agg (key.map u8b).toArray, u32b ctr, .agg (nonce.map u8b).toArray] [] (fun r M => r = .agg ((blockB key ctr nonce).map u8b).toArray ∧ M = []) := by
  have hsl := stateW_len key ctr nonce
  have hsc := stateR_x key ctr nonce hk hn
  have hbl : blockB key ctr nonce = outW64 (iterW 10 (stateW key ctr nonce)) (stateW key ctr nonce) 16 := by unfold blockB; rfl
  have hB := blockB_len key ctr nonce
  obtain ⟨S, hS⟩ : ∃ S, S = stateW key ctr nonce := ⟨_, rfl⟩
  rw [← hS] at hsl hsc hbl
  have hi0 : iterW 0 S = S := by unfold iterW; rfl
  have his : ∀ n, iterW (n + 1) S = twiceN (iterW n S) 8 := fun n => by conv => lhs; unfold iterW; unfold twiceW; rfl
  have hil : ∀ n, (iterW n S).length = 16 := fun n => by rw [iterW_len, hsl]
  refine fn_x Tryz.func153 rfl rfl rfl Tryz.mixed (by kernel_rfl) ?_
  intro w0
  refine Y1 ?_
  refine Zh5 rfl ?_; intro b3
  refine Zh5 rfl ?_; intro b5
  refine Zhz (cs := ((List.replicate 64 0#8).map u8b).toArray) rfl ?_; intro b6
  refine Y5 ?_
  refine Zh8 rfl (by kernel_rfl) (hsc) rfl qT ?_
  rintro _ _ ⟨fa, fc, rfl, rfl⟩
  refine Y7 ?_
  refine Zh8 rfl (by kernel_rfl) (hsc) rfl qT ?_
  rintro _ _ ⟨la, lc, rfl, rfl⟩
  refine Y4 ?_
  refine Zh8 rfl (by kernel_rfl) (placesR_x) rfl qT ?_
  rintro _ _ ⟨gp, rfl, rfl⟩
  refine V3 ?_
  refine x_own (n := 16) (a := la) (.there .here) (by omega) ?_
  rintro gl rl rfl hlc1 hlc2 hlc3
  refine x_own (n := 16) (a := fa) (.there (.there .here)) (by omega) ?_
  rintro gf rf rfl hfc1 hfc2 hfc3
  refine V3 ?_
  refine Zgo [(10, 13), (27, 84)] (by kernel_rfl) (fun i : Nat => i ≤ 10) (fun i => [cl gl ((iterW i S).map w64 ++ rl).toArray 24, cl gf (S.map w64 ++ rf).toArray 24, cl gp (plA.map nvv).toArray 3, cl b6 ((List.replicate 64 0#8).map u8b).toArray 199])
    (fun i => [(10, nvv i)]) (fun i => 10 - i) 0 (by omega) (by rw [hi0]; exact qI) ⟨rfl, trivial⟩ ?_
  intro i u hi
  refine V4 ?_
  refine Zgg rfl (fun hB => ?_) (fun hB => ?_)
  · refine V3 ?_
    refine Zgo [(11, 13), (31, 84)] (by kernel_rfl) (fun k : Nat => k ≤ 8) (fun k => [cl gl ((twiceN (iterW i S) k).map w64 ++ rl).toArray 24, cl gf (S.map w64 ++ rf).toArray 24, cl gp (plA.map nvv).toArray 3, cl b6 ((List.replicate 64 0#8).map u8b).toArray 199])
      (fun k => [(11, nvv (4 * k))]) (fun k => 8 - k) 0 (by omega) (by rw [show twiceN (iterW i S) 0 = iterW i S by unfold twiceN; rfl]; exact qI) ⟨rfl, trivial⟩ ?_
    intro k u2 hk8
    refine V6 ?_
    refine Zgg rfl (fun hB2 => ?_) (fun hB2 => ?_)
    · have hk : k < 8 := by omega
      have hs := twiceN_succ (iterW i S) k hk
      have htl : (twiceN (iterW i S) k).length = 16 := by rw [twiceN_len, hil]
      have hp0 : ((plA.map nvv).toArray)[4 * k]? = some (nvv (qi (quadOf (k / 4) (k % 4)) 0)) := plV_at k 0 hk (by omega)
      have hp1 := plV_at k 1 hk (by omega)
      have hp2 := plV_at k 2 hk (by omega)
      have hp3 := plV_at k 3 hk (by omega)
      have hpj := fun j hj => plV_at k j hk hj
      have hq0 := qi_lt k 0 hk (by omega)
      have hq1 := qi_lt k 1 hk (by omega)
      have hq2 := qi_lt k 2 hk (by omega)
      have hq3 := qi_lt k 3 hk (by omega)
      have hqj := fun j hj => qi_lt k j hk hj
      generalize quadOf (k / 4) (k % 4) = q at *
      generalize twiceN (iterW i S) k = T at *
      refine Ct.o ?_
      refine Zij (_) [12, 13, 14, 20, 21, 22, 28, 29, 30, 32, 33] (.q 0 (.q 1 (.q 2 (.q 3 (.q 7 (.q 8 (.q 9 (.q 10 (.q 11 (.q 15 (.q 16 (.q 17 (.q 18 (.q 19 (.q 23 (.q 24 (.q 25 (.q 26 (.q 27 (.r 4 (.q 5 (.r 6 (.r 12 (.r 13 (.r 14 (.r 20 (.r 21 (.r 22 (.r 28 (.r 29 (.r 30 (.q 31 (.e 32 true (.a 33 (.e 34 false .nil))))))))))))))))))))))))))))))))))) (by kernel_rfl) (by kernel_rfl) (Imp.refl _) ?_
      refine W3 ?_
      first|refine Zim rfl (Zl4 (n := 4 * k) rfl (int_eq (by push_cast; omega))) ?_|refine Zim rfl (Zl1 (n := 4 * k) rfl (int_eq (by push_cast; omega))) ?_
      refine W4 ?_
      first|refine Zim rfl (Zl4 (n := 4 * k + 1) rfl (int_eq (by push_cast; omega))) ?_|refine Zim rfl (Zl1 (n := 4 * k + 1) rfl (int_eq (by push_cast; omega))) ?_
      refine W4 ?_
      first|refine Zim rfl (Zl4 (n := 4 * k + 2) rfl (int_eq (by push_cast; omega))) ?_|refine Zim rfl (Zl1 (n := 4 * k + 2) rfl (int_eq (by push_cast; omega))) ?_
      refine W4 ?_
      first|refine Zim rfl (Zl4 (n := 4 * k + 3) rfl (int_eq (by push_cast; omega))) ?_|refine Zim rfl (Zl1 (n := 4 * k + 3) rfl (int_eq (by push_cast; omega))) ?_
      refine Ziv rfl rfl qH (hp0) ?_
      first|refine Zim rfl (Zl4 (n := qi q 0) rfl (int_eq (by push_cast; omega))) ?_|refine Zim rfl (Zl1 (n := qi q 0) rfl (int_eq (by push_cast; omega))) ?_
      refine Ziv rfl rfl qH (getR64 (by omega)) ?_
      refine Ziv rfl rfl qH (hp1) ?_
      first|refine Ziz rfl (Zl4 (n := qi q 1) rfl (int_eq (by push_cast; omega))) ?_|refine Ziz rfl (Zl1 (n := qi q 1) rfl (int_eq (by push_cast; omega))) ?_
      refine Ziv rfl rfl qH (getR64 (by omega)) ?_
      refine Ziv rfl rfl qH (hp2) ?_
      first|refine Ziz rfl (Zl4 (n := qi q 2) rfl (int_eq (by push_cast; omega))) ?_|refine Ziz rfl (Zl1 (n := qi q 2) rfl (int_eq (by push_cast; omega))) ?_
      refine Ziv rfl rfl qH (getR64 (by omega)) ?_
      refine Ziv rfl rfl qH (hp3) ?_
      first|refine Ziz rfl (Zl4 (n := qi q 3) rfl (int_eq (by push_cast; omega))) ?_|refine Ziz rfl (Zl1 (n := qi q 3) rfl (int_eq (by push_cast; omega))) ?_
      refine Ziv rfl rfl qH (getR64 (by omega)) ?_
      refine Zim rfl (Zdn (cs := #[.int .u64 _, .int .u64 _, .int .u64 _, .int .u64 _]) rfl) ?_
      refine Ziq rfl ?_
      refine Zh8 rfl (by kernel_rfl) (quarterR_x _ _ _ _) rfl qT ?_
      rintro _ _ ⟨rfl, rfl⟩
      refine Y1 ?_
      refine Zg3 ⟨fun _ => Imp.arr qV, ?_⟩
      refine Zir rfl (cs := ((List.replicate 4 0#64).map u64b).toArray) rfl ?_; intro b12
      refine Ziq rfl ?_
      first|refine Zhy rfl rfl qR qZ qN qZ ?_|refine Zhx rfl rfl qR qZ qN qZ rfl ?_
      refine Zg3 ⟨(fun hh => Bool.noConfusion hh), ?_⟩
      refine Zik ?_
      refine Ct.o ?_
      have hqa := putQ_at T q
      generalize quarterW (T.getD (qi q 0) 0#32) (T.getD (qi q 1) 0#32) (T.getD (qi q 2) 0#32) (T.getD (qi q 3) 0#32) = R at *
      refine V3 ?_
      refine Zgo [(13, 13), (70, 84)] (by kernel_rfl) (fun j : Nat => j ≤ 4) (fun j => [cl b12 (qcl R) 248, cl gl ((putQ T q R j).map w64 ++ rl).toArray 24, cl gf (S.map w64 ++ rf).toArray 24, cl gp (plA.map nvv).toArray 3, cl b6 ((List.replicate 64 0#8).map u8b).toArray 199])
        (fun j => [(13, nvv j)]) (fun j => 4 - j) 0 (by omega) (by rw [show putQ T q R 0 = T by unfold putQ; rfl]; exact qI) ⟨rfl, trivial⟩ ?_
      intro j u3 hj4
      refine V4 ?_
      refine Zgg rfl (fun hB3 => ?_) (fun hB3 => ?_)
      · have hj : j < 4 := by omega
        have hpl := putQ_len T q R j
        have hjq := hqj j hj
        refine Ct.o ?_
        refine Zij (_) [9] (.q 0 (.q 1 (.q 2 (.q 3 (.q 4 (.q 5 (.q 7 (.q 8 (.r 6 (.r 9 (.q 10 (.e 11 false .nil)))))))))))) (by kernel_rfl) (by kernel_rfl) (Imp.refl _) ?_
        refine W5 ?_
        first|refine Zim rfl (Zl4 (n := 4 * k + j) rfl (int_eq (by push_cast; omega))) ?_|refine Zim rfl (Zl1 (n := 4 * k + j) rfl (int_eq (by push_cast; omega))) ?_
        refine W1 ?_
        first|refine Zim rfl (Zl5 (n := j) rfl (int_eq (by push_cast; omega))) ?_|refine Zim rfl (Zl3 (n := j) rfl (int_eq (by push_cast; omega))) ?_
        refine Ziv rfl rfl qH (hpj j hj) ?_
        refine Ziv rfl rfl qH (ri_at R j hj) ?_
        first|refine Zim rfl (Zl4 (n := qi q j) rfl (int_eq (by push_cast; omega))) ?_|refine Zim rfl (Zl1 (n := qi q j) rfl (int_eq (by push_cast; omega))) ?_
        refine Ziq rfl ?_
        refine Zht rfl rfl qR qZ (setR64 (by omega)) ?_
        refine Zg3 ⟨(fun hh => Bool.noConfusion hh), ?_⟩
        refine Zik ?_
        refine Ct.o ?_
        rw [show (putQ T q R j).set (qi q j) (ri R j) = putQ T q R (j + 1) by conv => rhs; unfold putQ; rfl]
        refine V5 ?_
        exact Zgl (j + 1) qO (by omega) qI ⟨rfl, trivial⟩
      · have hje : j = 4 := by omega
        subst hje
        rw [hqa, ← hs]
        refine V5 ?_
        exact Zgl (k + 1) qO (by omega) qI ⟨int_eq (by omega), trivial⟩
    · have hke : k = 8 := by omega
      subst hke
      rw [← his]
      refine V5 ?_
      exact Zgl (i + 1) qO (by omega) qI ⟨rfl, trivial⟩
  · have hie : i = 10 := by omega
    subst hie
    have hli := hil 10
    have hat : ∀ i j, i < 16 → j < 4 → (blockB key ctr nonce)[4 * i + j]? = (leB (sumW (iterW 10 S) S i) 4)[j]? := fun i j h1 h2 => by rw [hbl]; exact outW64_at _ _ 16 i j h1 h2
    generalize blockB key ctr nonce = B at *
    generalize iterW 10 S = T at *
    refine Y1 ?_
    refine Zhz (cs := ((List.replicate 64 0#8).map u8b).toArray) rfl ?_; intro b14
    refine V4 ?_
    refine Zgo [(15, 17), (85, 111)] (by kernel_rfl) (fun i : Nat => i ≤ 16) (fun i => [cl b14 ((cpK B 64 (4 * i)).map u8b).toArray 199, cl gl (T.map w64 ++ rl).toArray 24, cl gf (S.map w64 ++ rf).toArray 24, cl b6 ((List.replicate 64 0#8).map u8b).toArray 199])
      (fun i => [(15, nvv i)]) (fun i => 16 - i) 0 (by omega) (by rw [show cpK B 64 (4 * 0) = List.replicate 64 0#8 by unfold cpK; rfl]; exact qI) ⟨rfl, trivial⟩ ?_
    intro i u2 hi
    refine V4 ?_
    refine Zgg rfl (fun hB2 => ?_) (fun hB2 => ?_)
    · refine Ct.o ?_
      refine Zij (_) [7] (.q 0 (.q 1 (.q 2 (.q 4 (.q 5 (.q 6 (.r 3 (.r 7 (.e 8 false (.e 9 false (.q 10 .nil))))))))))) (by kernel_rfl) (by kernel_rfl) (Imp.refl _) ?_
      refine W2 ?_
      first|refine Zim rfl (Zl4 (n := i) rfl (int_eq (by push_cast; omega))) ?_|refine Zim rfl (Zl1 (n := i) rfl (int_eq (by push_cast; omega))) ?_
      refine W2 ?_
      first|refine Zim rfl (Zl4 (n := i) rfl (int_eq (by push_cast; omega))) ?_|refine Zim rfl (Zl1 (n := i) rfl (int_eq (by push_cast; omega))) ?_
      refine Ziv rfl rfl qH (getR64 (by omega)) ?_
      refine Ziv rfl rfl qH (getR64 (by omega)) ?_
      refine Ziq rfl ?_
      refine Zh8 rfl (by kernel_rfl) (plusR_x _ _) rfl qT ?_
      rintro _ _ ⟨rfl, rfl⟩
      refine Y1 ?_
      refine Zg3 ⟨(fun hh => Bool.noConfusion hh), ?_⟩
      refine Ziq rfl ?_
      refine Zh8 rfl (by kernel_rfl) (bytesR_x (L := []) _ 4 (by omega)) rfl qT ?_
      rintro _ _ ⟨ya, yc, rfl, rfl⟩
      refine Y1 ?_
      refine Zg3 ⟨(fun hh => Bool.noConfusion hh), ?_⟩
      refine W2 ?_
      refine Ct.o ?_
      rw [leB_wide]
      have hai := fun j => hat i j hB2
      rw [show sumW T S i = T.getD i 0#32 + S.getD i 0#32 from rfl] at hai
      have hll := leB_len (T.getD i 0#32 + S.getD i 0#32) 4
      generalize leB (T.getD i 0#32 + S.getD i 0#32) 4 = Y at *
      refine x_own (a := ya) .here (by omega) ?_
      rintro gy ry rfl hyc1 hyc2 hyc3
      refine V3 ?_
      refine Zgo [(17, 17), (99, 111)] (by kernel_rfl) (fun j : Nat => j ≤ 4) (fun j => [cl b14 ((cpK B 64 (4 * i + j)).map u8b).toArray 199, cl gy (Y.map u8b ++ ry).toArray 5, cl gl (T.map w64 ++ rl).toArray 24, cl gf (S.map w64 ++ rf).toArray 24, cl b6 ((List.replicate 64 0#8).map u8b).toArray 199])
        (fun j => [(17, nvv j)]) (fun j => 4 - j) 0 (by omega) qI ⟨rfl, trivial⟩ ?_
      intro j u3 hj
      have hkl := cpK_len B 64 (4 * i + j) (by omega) (by omega)
      refine V4 ?_
      refine Zgg rfl (fun hB3 => ?_) (fun hB3 => ?_)
      · have hb1 : 4 * i + j < B.length := by omega
        have hy : (Y.map u8b ++ ry).toArray[j]? = some (u8b (B[4 * i + j])) := by
          have h1 := hai j hB3
          rw [List.getElem?_eq_getElem hb1] at h1
          rw [List.getElem?_toArray, List.getElem?_append_left (by simp; omega), List.getElem?_map, ← h1]; rfl
        refine Y2 ?_
        first|refine Zhg (Zmc (a := 4) rfl rfl) ?_|refine Zhg (Zbi rfl rfl) ?_
        refine Y4 ?_
        first|refine Zhg (Zl4 (n := j) rfl (int_eq (by push_cast; omega))) ?_|refine Zhg (Zl1 (n := j) rfl (int_eq (by push_cast; omega))) ?_
        refine Zhp rfl qH (hy) ?_
        first|refine Zhg (Zl5 (n := 4 * i + j) rfl (int_eq (by push_cast; omega))) ?_|refine Zhg (Zl3 (n := 4 * i + j) rfl (int_eq (by push_cast; omega))) ?_
        refine Zht rfl rfl qR qZ (setL (f := u8b)) ?_
        refine V1 ?_
        rw [cpK_set B 64 (4 * i + j) (by omega) hb1]
        refine V5 ?_
        exact Zgl (j + 1) qO (by omega) qI ⟨rfl, trivial⟩
      · have hje : j = 4 := by omega
        subst hje
        refine V5 ?_
        exact Zgl (i + 1) qO (by omega) (by rw [show 4 * (i + 1) = 4 * i + 4 by omega]; exact qI) ⟨rfl, trivial⟩
    · have hie : i = 16 := by omega
      subst hie
      have hcl := cpK_len B 64 (4 * 16) (by omega) (by omega)
      rw [show cpK B 64 (4 * 16) = B by rw [show 4 * 16 = 64 from rfl, cpK_end B 64 (by omega), List.take_of_length_le (by omega)]]
      refine Y2 ?_
      first|refine Zhy rfl rfl qR qZ qN qZ ?_|refine Zhx rfl rfl qR qZ qN qZ rfl ?_
      refine V1 ?_
      refine rx1 (Zhe rfl qH qZ (Zg7)) ?_
      exact ⟨_, ⟨rfl, rfl⟩, qI⟩
end Go.Sl

/- the document's key stream: New, Xor, walked. -/
set_option maxHeartbeats 4000000
set_option maxRecDepth 10000
set_option linter.unusedVariables false
set_option linter.unusedSimpArgs false
namespace Go.Sl
open Go Go.Proofs
attribute [local irreducible] pt pur ex all den denOps denS xOps xC cX CX xthen xblk xcut xloop xng retX resX Calls PV Rd Con
attribute [local irreducible] blockB ksB
theorem xor8 (x y : Byte) : (x.setWidth 64 ^^^ y.setWidth 64).setWidth 8 = x ^^^ y := by
  apply BitVec.eq_of_getLsbD_eq
  intro j hj
  simp only [BitVec.getLsbD_setWidth, BitVec.getLsbD_xor, hj, decide_true, Bool.true_and, show j < 64 by omega]
theorem against64_x (x y : BitVec 64) : Con Tryz.prog 175 [u64b x, u64b y] [] (fun r M => r = u64b (x ^^^ y) ∧ M = []) := by
  refine fn_x Tryz.func175 rfl rfl rfl Tryz.mixed (by kernel_rfl) ?_
  intro w0
  refine V9 ?_
  refine rx1 (Zg9 rfl (Zg7)) ?_
  exact ⟨_, ⟨rfl, rfl⟩, by exact Imp.arr (by repeat (first|exact Arr.nil|exact Arr.stop|refine Arr.cons (by repeat constructor) ?_|refine Arr.skip ?_))⟩
theorem newR_x (key nonce : List Byte) (ctr : Wd) (hk : key.length = 32) (hn : nonce.length = 12) : Con Tryz.prog 156 [.agg (key.map u8b).toArray, .agg (nonce.map u8b).toArray, u32b ctr] [] (fun r M => ∃ s, r = .pointer (some ⟨s, 0, none⟩) ∧ M = [cl s (scl key nonce (64#64 * ctr.setWidth 64)) 254]) := by
  refine fn_x Tryz.func156 rfl rfl rfl Tryz.mixed (by kernel_rfl) ?_
  intro w0
  refine Y1 ?_
  refine Zh5 rfl ?_; intro b3
  refine Zh5 rfl ?_; intro b4
  refine Y6 ?_
  refine Zhg (Zlb rfl) ?_
  refine Zhg (Zle (x := 64#64) rfl rfl) ?_
  refine Zhg (Zdm (cs := scl key nonce (64#64 * ctr.setWidth 64)) (new_fill key nonce _ hk hn rfl rfl rfl)) ?_
  refine Zh5 rfl ?_; intro b13
  refine V2 ?_
  refine rx1 (Zhb rfl (Zg7)) ?_
  exact ⟨_, ⟨b13, rfl, rfl⟩, qI⟩
attribute [local irreducible] scl xorB
theorem sxorR_x {L : List Asrt} {s : Nat} (key nonce : List Byte) (hk : key.length = 32) (hn : nonce.length = 12) (p : Nat) (hp : p + 1099511627776 ≤ 18446744073709551616) {v : Value} {b : List Byte} (h : Bs L v b) (hb : b.length + p ≤ 274877906944) :
    Con Tryz.prog 157 [.pointer (some ⟨s, 0, none⟩), v] (cl s (scl key nonce (BitVec.ofNat 64 p)) 254 :: L)
      (fun r M => ∃ a c, r = .tuple #[.slice a b.length c, nvv 0] ∧ M = own 5 1 (.slice a b.length c) b.length ((xorB key nonce p b).map u8b) :: cl s (scl key nonce (BitVec.ofNat 64 (p + b.length))) 254 :: L) := by
  refine Con.get (fun w0 w F H => (h.imp Imp.tail).sh _ _ _ H) ?_
  rintro ⟨va, vc, rfl, hvc, hvcm⟩
  have hsz := fun q => scl_size (p := q) hk hn
  have hsp := hsz (BitVec.ofNat 64 p)
  have hxl := xorB_len key nonce p b
  have hle : ¬ ((274877906944#64 - BitVec.ofNat 64 p).toNat < (BitVec.ofInt 64 ((b.length : Nat) : Int)).toNat) := by
    rw [BitVec.toNat_sub, BitVec.toNat_ofNat, BitVec.toNat_ofNat, BitVec.toNat_ofInt]
    omega
  refine fn_x Tryz.func157 rfl rfl rfl Tryz.mixed (by kernel_rfl) ?_
  intro w0
  refine Y7 ?_
  refine Zhg (Zlv rfl) ?_
  refine Y3 ?_
  refine Zhp rfl qH (scl_p hk hn) ?_
  refine Zhg (Zld (x := 274877906944#64) rfl rfl) ?_
  refine Zhg (Zlr rfl rfl) ?_
  refine Zhn 18 rfl (decide_eq_false (hle)) ?_
  refine Y6 ?_
  refine Zhz (cs := ((List.replicate 64 0#8).map u8b).toArray) rfl ?_; intro b7
  refine V4 ?_
  refine Zgo [(6, 6), (8, 9), (19, 65)] (by kernel_rfl) (fun s : Nat × Option Addr × Nat × List Byte => s.1 ≤ b.length ∧ s.2.2.2.length = 64 ∧ (s.1 ≠ 0 → s.2.2.2 = blockB key (BitVec.ofNat 32 ((p + s.1 - 1) / 64)) nonce))
    (fun t => own 5 1 (.slice t.2.1 t.1 t.2.2.1) t.1 (((xorB key nonce p b).take t.1).map u8b) :: cl b7 (t.2.2.2.map u8b).toArray 199 :: cl s (scl key nonce (BitVec.ofNat 64 p)) 254 :: L)
    (fun t => [(8, nvv t.1), (6, .slice t.2.1 t.1 t.2.2.1)]) (fun t => b.length - t.1) (0, none, 0, List.replicate 64 0#8) ⟨by dsimp only; omega, by simp, fun h => absurd rfl h⟩ (Imp.trans (Imp.arr (N := cl b7 ((List.replicate 64 0#8).map u8b).toArray 199 :: cl s (scl key nonce (BitVec.ofNat 64 p)) 254 :: L) qV) Imp.own_nil) ⟨rfl, rfl, trivial⟩ ?_
  rintro ⟨d, a, c, Y⟩ u ⟨hd, hYl, hYb⟩
  dsimp only at hd hYl hYb ⊢
  refine V6 ?_
  refine Zgg rfl (fun hA => ?_) (fun hA => ?_)
  · refine Zgt (fun F w H => (h.imp (Imp.arr qV)).some (by omega) H) ?_
    rintro ⟨a1, a2, rfl⟩
    have hoff : (p + d) % 64 < 64 := Nat.mod_lt _ (by omega)
    refine Y4 ?_
    refine Zhp rfl qH (scl_p hk hn) ?_
    refine Y1 ?_
    refine Zhg (Zlv rfl) ?_
    refine V3 ?_
    rw [plus_eq]
    have hbl := fun c => blockB_len key c nonce
    have hb1 := hbl ((BitVec.ofNat 64 (p + d) / 64#64).setWidth 32)
    by_cases hd0 : d = 0
    · refine Y3 ?_
      refine Zhm 33 rfl (decide_eq_true (hd0)) ?_
      refine Y2 ?_
      first|refine Y0 ?_|(refine Zhh rfl ?_; (refine Zhg (Zlu (y := 64#64) rfl rfl) ?_))
      first|refine Y0 ?_|(refine Zhh rfl ?_; (refine Zhg (Zln (y := 0#64) rfl rfl) ?_))
      refine V3 ?_
      refine Zij (_) [10] (.q 0 (.q 1 (.q 2 (.q 4 (.q 5 (.q 6 (.q 7 (.q 8 (.q 9 (.r 3 (.r 10 (.e 11 false (.e 12 false .nil))))))))))))) (by kernel_rfl) (by kernel_rfl) (Imp.refl _) ?_
      refine W4 ?_
      refine Zim rfl (Zlt (y := 64#64) rfl rfl) ?_
      refine Zim rfl (Zlz rfl) ?_
      refine W3 ?_
      refine Zix (n := 32) rfl rfl qH qZ (scl_key hk) ?_
      refine Zfj rfl rfl (RdAg.cl (n := 12) (o := 32) qH (by omega) (scl_nonce hk hn)) ?_
      refine Ziq rfl ?_
      refine Zh8 rfl (by kernel_rfl) (blockR_x key _ nonce hk hn) rfl qT ?_
      rintro _ _ ⟨rfl, rfl⟩
      refine Y1 ?_
      refine Zg3 ⟨(fun hh => Bool.noConfusion hh), ?_⟩
      refine Ziq rfl ?_
      first|refine Zhy rfl rfl qR qZ qN qZ ?_|refine Zhx rfl rfl qR qZ qN qZ rfl ?_
      refine Zg3 ⟨(fun hh => Bool.noConfusion hh), ?_⟩
      refine Zik ?_
      refine Ct.o ?_
      rw [ctr_eq (p + d) (by omega)]
      obtain ⟨Y, hY⟩ : ∃ Y, Y = blockB key (BitVec.ofNat 32 ((p + d) / 64)) nonce := ⟨_, rfl⟩
      rw [← hY]
      have hYl : Y.length = 64 := by rw [hY]; exact hbl _
      have hg : ((Y.map u8b).toArray)[(p + d) % 64]? = some (u8b (ksB key nonce (p + d))) := by
        rw [hY]; unfold ksB
        rw [getL (by rw [blockB_len]; exact hoff), List.getD_eq_getElem?_getD, List.getElem?_eq_getElem (by rw [blockB_len]; exact hoff)]; rfl
      refine Ct.o ?_
      refine Zij (_) [9, 10] (.q 0 (.q 1 (.q 2 (.q 3 (.q 6 (.q 7 (.q 8 (.r 4 (.q 5 (.r 9 (.r 10 (.e 11 false (.q 12 (.e 13 false (.e 14 false (.q 15 .nil)))))))))))))))) (by kernel_rfl) (by kernel_rfl) (Imp.refl _) ?_
      refine W5 ?_
      refine Zim rfl (PV.eq (v' := .int .u64 (((p + d) % 64 : Nat) : Int)) (Zlu (y := 64#64) rfl rfl) (by rw [rem_eq (p + d) (by omega)])) ?_
      first|refine Zim rfl (Zl5 (n := (p + d) % 64) rfl (int_eq (by push_cast; omega))) ?_|refine Zim rfl (Zl3 (n := (p + d) % 64) rfl (int_eq (by push_cast; omega))) ?_
      refine Zfh rfl rfl (((h.imp (Imp.arr qV)).rd.at hA (getM hA))) ?_
      refine Zim rfl (Zjx rfl) ?_
      refine Ziv rfl rfl qH (hg) ?_
      refine Ziz rfl (Zjx rfl) ?_
      refine Ziq rfl ?_
      refine Zh8 rfl (by kernel_rfl) (against64_x _ _) rfl qT ?_
      rintro _ _ ⟨rfl, rfl⟩
      refine Y1 ?_
      refine Zg3 ⟨(fun hh => Bool.noConfusion hh), ?_⟩
      refine Zim rfl (Zlx rfl) ?_
      refine Ziq rfl ?_
      refine Zh7 (cs := #[.int .u8 _]) (by omega) (by omega) rfl ?_; intro b64
      refine Zg3 ⟨(fun hh => Bool.noConfusion hh), ?_⟩
      refine Ziq rfl ?_
      refine Zia rfl rfl qH (Rd.cl (xs := [u8b ((b[d].setWidth 64 ^^^ (ksB key nonce (p + d)).setWidth 64).setWidth 8)]) qH rfl qZ rfl) qN (by omega) qS ?_; intro a3 c3
      refine Zg3 ⟨(fun hh => Bool.noConfusion hh), ?_⟩
      refine W2 ?_
      refine Ct.o ?_
      have e2 : ((xorB key nonce p b).take d).map u8b ++ [u8b ((b[d].setWidth 64 ^^^ (ksB key nonce (p + d)).setWidth 64).setWidth 8)] = ((xorB key nonce p b).take (d + 1)).map u8b := by
        rw [List.take_succ_eq_append_getElem (by rw [xorB_len]; exact hA), xorB_get key nonce p b d hA, xor8]; simp only [List.map_append, List.map_cons, List.map_nil]
      rw [e2]
      refine V5 ?_
      exact Zgl (d + 1, a3, c3, Y) qO ⟨by dsimp only; omega, hYl, fun _ => by dsimp only; rw [hY, show p + (d + 1) - 1 = p + d by omega]⟩ qI ⟨rfl, rfl, trivial⟩
    · by_cases hm : BitVec.ofNat 64 (p + d) % 64#64 = 0#64
      · refine Y3 ?_
        refine Zhn 33 rfl (decide_eq_false (hd0)) ?_
        refine Y2 ?_
        first|refine Y0 ?_|(refine Zhh rfl ?_; (refine Zhg (Zlu (y := 64#64) rfl rfl (by decide)) ?_))
        first|refine Y0 ?_|(refine Zhh rfl ?_; (refine Zhg (Zln (y := 0#64) rfl rfl) ?_))
        refine Zhm 37 rfl (decide_eq_true (hm)) ?_
        refine V3 ?_
        refine Zij (_) [10] (.q 0 (.q 1 (.q 2 (.q 4 (.q 5 (.q 6 (.q 7 (.q 8 (.q 9 (.r 3 (.r 10 (.e 11 false (.e 12 false .nil))))))))))))) (by kernel_rfl) (by kernel_rfl) (Imp.refl _) ?_
        refine W4 ?_
        refine Zim rfl (Zlt (y := 64#64) rfl rfl) ?_
        refine Zim rfl (Zlz rfl) ?_
        refine W3 ?_
        refine Zix (n := 32) rfl rfl qH qZ (scl_key hk) ?_
        refine Zfj rfl rfl (RdAg.cl (n := 12) (o := 32) qH (by omega) (scl_nonce hk hn)) ?_
        refine Ziq rfl ?_
        refine Zh8 rfl (by kernel_rfl) (blockR_x key _ nonce hk hn) rfl qT ?_
        rintro _ _ ⟨rfl, rfl⟩
        refine Y1 ?_
        refine Zg3 ⟨(fun hh => Bool.noConfusion hh), ?_⟩
        refine Ziq rfl ?_
        first|refine Zhy rfl rfl qR qZ qN qZ ?_|refine Zhx rfl rfl qR qZ qN qZ rfl ?_
        refine Zg3 ⟨(fun hh => Bool.noConfusion hh), ?_⟩
        refine Zik ?_
        refine Ct.o ?_
        rw [ctr_eq (p + d) (by omega)]
        obtain ⟨Y, hY⟩ : ∃ Y, Y = blockB key (BitVec.ofNat 32 ((p + d) / 64)) nonce := ⟨_, rfl⟩
        rw [← hY]
        have hYl : Y.length = 64 := by rw [hY]; exact hbl _
        have hg : ((Y.map u8b).toArray)[(p + d) % 64]? = some (u8b (ksB key nonce (p + d))) := by
          rw [hY]; unfold ksB
          rw [getL (by rw [blockB_len]; exact hoff), List.getD_eq_getElem?_getD, List.getElem?_eq_getElem (by rw [blockB_len]; exact hoff)]; rfl
        refine Ct.o ?_
        refine Zij (_) [9, 10] (.q 0 (.q 1 (.q 2 (.q 3 (.q 6 (.q 7 (.q 8 (.r 4 (.q 5 (.r 9 (.r 10 (.e 11 false (.q 12 (.e 13 false (.e 14 false (.q 15 .nil)))))))))))))))) (by kernel_rfl) (by kernel_rfl) (Imp.refl _) ?_
        refine W5 ?_
        refine Zim rfl (PV.eq (v' := .int .u64 (((p + d) % 64 : Nat) : Int)) (Zlu (y := 64#64) rfl rfl) (by rw [rem_eq (p + d) (by omega)])) ?_
        first|refine Zim rfl (Zl5 (n := (p + d) % 64) rfl (int_eq (by push_cast; omega))) ?_|refine Zim rfl (Zl3 (n := (p + d) % 64) rfl (int_eq (by push_cast; omega))) ?_
        refine Zfh rfl rfl (((h.imp (Imp.arr qV)).rd.at hA (getM hA))) ?_
        refine Zim rfl (Zjx rfl) ?_
        refine Ziv rfl rfl qH (hg) ?_
        refine Ziz rfl (Zjx rfl) ?_
        refine Ziq rfl ?_
        refine Zh8 rfl (by kernel_rfl) (against64_x _ _) rfl qT ?_
        rintro _ _ ⟨rfl, rfl⟩
        refine Y1 ?_
        refine Zg3 ⟨(fun hh => Bool.noConfusion hh), ?_⟩
        refine Zim rfl (Zlx rfl) ?_
        refine Ziq rfl ?_
        refine Zh7 (cs := #[.int .u8 _]) (by omega) (by omega) rfl ?_; intro b64
        refine Zg3 ⟨(fun hh => Bool.noConfusion hh), ?_⟩
        refine Ziq rfl ?_
        refine Zia rfl rfl qH (Rd.cl (xs := [u8b ((b[d].setWidth 64 ^^^ (ksB key nonce (p + d)).setWidth 64).setWidth 8)]) qH rfl qZ rfl) qN (by omega) qS ?_; intro a3 c3
        refine Zg3 ⟨(fun hh => Bool.noConfusion hh), ?_⟩
        refine W2 ?_
        refine Ct.o ?_
        have e2 : ((xorB key nonce p b).take d).map u8b ++ [u8b ((b[d].setWidth 64 ^^^ (ksB key nonce (p + d)).setWidth 64).setWidth 8)] = ((xorB key nonce p b).take (d + 1)).map u8b := by
          rw [List.take_succ_eq_append_getElem (by rw [xorB_len]; exact hA), xorB_get key nonce p b d hA, xor8]; simp only [List.map_append, List.map_cons, List.map_nil]
        rw [e2]
        refine V5 ?_
        exact Zgl (d + 1, a3, c3, Y) qO ⟨by dsimp only; omega, hYl, fun _ => by dsimp only; rw [hY, show p + (d + 1) - 1 = p + d by omega]⟩ qI ⟨rfl, rfl, trivial⟩
      · refine Y3 ?_
        refine Zhn 33 rfl (decide_eq_false (hd0)) ?_
        refine Y2 ?_
        first|refine Y0 ?_|(refine Zhh rfl ?_; (refine Zhg (Zlu (y := 64#64) rfl rfl (by decide)) ?_))
        first|refine Y0 ?_|(refine Zhh rfl ?_; (refine Zhg (Zln (y := 0#64) rfl rfl) ?_))
        refine Zhn 37 rfl (decide_eq_false (hm)) ?_
        refine V3 ?_
        have hm2 : (p + d) % 64 ≠ 0 := fun h => hm (by apply BitVec.eq_of_toNat_eq; rw [rem_eq (p + d) (by omega), h]; rfl)
        have hY : Y = blockB key (BitVec.ofNat 32 ((p + d) / 64)) nonce := by rw [hYb hd0]; congr 2; omega
        have hg : ((Y.map u8b).toArray)[(p + d) % 64]? = some (u8b (ksB key nonce (p + d))) := by
          rw [hY]; unfold ksB
          rw [getL (by rw [blockB_len]; exact hoff), List.getD_eq_getElem?_getD, List.getElem?_eq_getElem (by rw [blockB_len]; exact hoff)]; rfl
        refine Ct.o ?_
        refine Zij (_) [9, 10] (.q 0 (.q 1 (.q 2 (.q 3 (.q 6 (.q 7 (.q 8 (.r 4 (.q 5 (.r 9 (.r 10 (.e 11 false (.q 12 (.e 13 false (.e 14 false (.q 15 .nil)))))))))))))))) (by kernel_rfl) (by kernel_rfl) (Imp.refl _) ?_
        refine W5 ?_
        refine Zim rfl (PV.eq (v' := .int .u64 (((p + d) % 64 : Nat) : Int)) (Zlu (y := 64#64) rfl rfl) (by rw [rem_eq (p + d) (by omega)])) ?_
        first|refine Zim rfl (Zl5 (n := (p + d) % 64) rfl (int_eq (by push_cast; omega))) ?_|refine Zim rfl (Zl3 (n := (p + d) % 64) rfl (int_eq (by push_cast; omega))) ?_
        refine Zfh rfl rfl (((h.imp (Imp.arr qV)).rd.at hA (getM hA))) ?_
        refine Zim rfl (Zjx rfl) ?_
        refine Ziv rfl rfl qH (hg) ?_
        refine Ziz rfl (Zjx rfl) ?_
        refine Ziq rfl ?_
        refine Zh8 rfl (by kernel_rfl) (against64_x _ _) rfl qT ?_
        rintro _ _ ⟨rfl, rfl⟩
        refine Y1 ?_
        refine Zg3 ⟨(fun hh => Bool.noConfusion hh), ?_⟩
        refine Zim rfl (Zlx rfl) ?_
        refine Ziq rfl ?_
        refine Zh7 (cs := #[.int .u8 _]) (by omega) (by omega) rfl ?_; intro b64
        refine Zg3 ⟨(fun hh => Bool.noConfusion hh), ?_⟩
        refine Ziq rfl ?_
        refine Zia rfl rfl qH (Rd.cl (xs := [u8b ((b[d].setWidth 64 ^^^ (ksB key nonce (p + d)).setWidth 64).setWidth 8)]) qH rfl qZ rfl) qN (by omega) qS ?_; intro a3 c3
        refine Zg3 ⟨(fun hh => Bool.noConfusion hh), ?_⟩
        refine W2 ?_
        refine Ct.o ?_
        have e2 : ((xorB key nonce p b).take d).map u8b ++ [u8b ((b[d].setWidth 64 ^^^ (ksB key nonce (p + d)).setWidth 64).setWidth 8)] = ((xorB key nonce p b).take (d + 1)).map u8b := by
          rw [List.take_succ_eq_append_getElem (by rw [xorB_len]; exact hA), xorB_get key nonce p b d hA, xor8]; simp only [List.map_append, List.map_cons, List.map_nil]
        rw [e2]
        refine V5 ?_
        exact Zgl (d + 1, a3, c3, Y) qO ⟨by dsimp only; omega, hYl, fun _ => by dsimp only; rw [hY, show p + (d + 1) - 1 = p + d by omega]⟩ qI ⟨rfl, rfl, trivial⟩
  · have hie : d = b.length := by omega
    subst hie
    rw [List.take_of_length_le (by omega)]
    refine Y5 ?_
    refine Zhp rfl qH (scl_p hk hn) ?_
    refine Y2 ?_
    refine Zhg (Zlv rfl) ?_
    refine Y3 ?_
    refine Zht rfl rfl qR qZ (scl_set hk hn) ?_
    refine V1 ?_
    rw [plus_eq]
    refine V5 ?_
    refine rx2 (Zhc rfl (Zg9 rfl (Zg7))) ?_
    exact ⟨_, ⟨a, c, rfl, rfl⟩, qI⟩
theorem xorR_x {L : List Asrt} (key nonce : List Byte) (hk : key.length = 32) (hn : nonce.length = 12) {v : Value} {b : List Byte} (h : Bs L v b) (hb : b.length ≤ 274877906880) :
    Con Tryz.prog 137 [.agg (key.map u8b).toArray, .agg (nonce.map u8b).toArray, u32b 1#32, v] L
      (fun r M => ∃ a c, r = .slice a b.length c ∧ M = own 5 1 (.slice a b.length c) b.length ((xorB key nonce 64 b).map u8b) :: L) := by
  refine Con.get (fun w0 w F H => h.sh _ _ _ H) ?_
  rintro ⟨va, vc, rfl, hvc, hvcm⟩
  have hnew := newR_x key nonce 1#32 hk hn
  rw [show 64#64 * (1#32 : Wd).setWidth 64 = BitVec.ofNat 64 64 by decide] at hnew
  refine fn_x Tryz.func137 rfl rfl rfl Tryz.mixed (by kernel_rfl) ?_
  intro w0
  refine Y1 ?_
  refine Zh5 rfl ?_; intro b4
  refine Zh5 rfl ?_; intro b5
  refine Y6 ?_
  refine Zh8 rfl (by kernel_rfl) (hnew) rfl qT ?_
  rintro _ _ ⟨s, rfl, rfl⟩
  refine Y2 ?_
  refine Zh8 rfl (by kernel_rfl) (sxorR_x (L := L) (s := s) key nonce hk hn 64 (by omega) h (by omega)) rfl qT ?_
  rintro _ _ ⟨a, c, rfl, rfl⟩
  refine V11 ?_
  refine rx1 (Zhc rfl (Zg7)) ?_
  exact ⟨_, ⟨a, c, rfl, rfl⟩, qI⟩
end Go.Sl

/- the document's answer for the code, in digits: clean, nought. -/
set_option maxHeartbeats 4000000
set_option maxRecDepth 10000
set_option linter.unusedVariables false
set_option linter.unusedSimpArgs false
namespace Go.Sl
open Go Go.Proofs
attribute [local irreducible] pt pur ex all den denOps denS xOps xC cX CX xthen xblk xcut xloop xng retX resX Calls PV Rd Con
/-- A number that an int holds. -/
abbrev nv (n : Nat) : Value := .int .i64 (n : Int)
def valD : List Nat → Nat
  | [] => 0
  | x :: l => x + 256 * valD l
theorem valD_app (a b : List Nat) : valD (a ++ b) = valD a + 256 ^ a.length * valD b := by
  induction a with
  | nil => simp [valD]
  | cons x a ih =>
    simp only [List.cons_append, valD, ih, List.length_cons, Nat.pow_succ, Nat.mul_add]
    rw [← Nat.mul_assoc, Nat.mul_comm 256 (256 ^ a.length)]; omega
theorem valD_lt : ∀ (l : List Nat), (∀ x ∈ l, x < 256) → valD l < 256 ^ l.length
  | [], _ => by simp [valD]
  | x :: l, h => by
    have h1 := h x (by simp)
    have h2 := valD_lt l (fun y hy => h y (by simp [hy]))
    simp only [valD, List.length_cons, Nat.pow_succ]; omega
theorem valD_zeros (n : Nat) : valD (List.replicate n 0) = 0 := by
  induction n with
  | zero => rfl
  | succ n ih => simp [List.replicate_succ, valD, ih]
/-- Digits below 256. -/
def Dig (l : List Nat) : Prop := ∀ x ∈ l, x < 256
theorem clean_x {L : List Asrt} {a : Option Addr} {c n : Nat} {l : List Nat} (h : Rd L 1 (.slice a l.length c) l.length (l.map nv)) (hb : ∀ x ∈ l, x ≤ 1099511627776) (hl : l.length ≤ n) (hn : n ≤ 4096) (hv : valD l < 256 ^ n) :
    Con Tryz.prog 183 [.slice a l.length c] L (fun r M => ∃ a2 c2 d, Dig d ∧ valD d = valD l ∧ d.length ≤ n ∧ l.length ≤ d.length ∧ r = .slice a2 d.length c2 ∧ M = own 3 1 r d.length (d.map nv) :: L) := by
  refine fn_x Tryz.func183 rfl rfl rfl Tryz.mixed (by kernel_rfl) ?_
  intro w0
  refine V12 ?_
  refine Zgo [(3, 32)] (by kernel_rfl) (fun s : Nat × Nat × Option Addr × Nat × List Nat => s.1 ≤ n ∧ s.2.2.2.2.length = s.1 ∧ s.2.1 ≤ 4398046511104 ∧ Dig s.2.2.2.2 ∧ valD s.2.2.2.2 + 256 ^ s.1 * (s.2.1 + valD (l.drop s.1)) = valD l)
    (fun s => own 3 1 (.slice s.2.2.1 s.2.2.2.2.length s.2.2.2.1) s.2.2.2.2.length (s.2.2.2.2.map nv) :: L)
    (fun s => [(5, .int .i64 (s.1 : Int)), (4, .int .i64 (s.2.1 : Int)), (3, .slice s.2.2.1 s.2.2.2.2.length s.2.2.2.1)]) (fun s => (l.length - s.1) * 4398046511105 + s.2.1) (0, 0, none, 0, []) ⟨Nat.zero_le _, rfl, by show 0 ≤ _; omega, by intro x hx; simp at hx, by simp [valD]⟩ Imp.own_nil ⟨rfl, rfl, rfl, trivial⟩ ?_
  rintro ⟨i, cy, da, dc, d⟩ u ⟨hi, hdl, hcy, hd, hval⟩
  dsimp only at hi hdl hcy hd hval ⊢
  have hdrop : ∀ hA : i < l.length, l.drop i = l[i] :: l.drop (i + 1) := fun hA => List.drop_eq_getElem_cons hA
  have step : ∀ x cy' : Nat, x = cy + (l[i]?.getD 0) → cy' = x / 256 → valD (d ++ [x % 256]) + 256 ^ (i + 1) * (cy' + valD (l.drop (i + 1))) = valD l := by
    intro x cy' hx hc
    rw [← hval, valD_app, hdl, Nat.pow_succ]
    have e : cy + valD (l.drop i) = x % 256 + 256 * (cy' + valD (l.drop (i + 1))) := by
      by_cases hA : i < l.length
      · rw [hdrop hA, List.getElem?_eq_getElem hA] at *
        simp only [Option.getD_some, valD] at *
        omega
      · rw [List.drop_eq_nil_of_le (by omega), List.drop_eq_nil_of_le (by omega), List.getElem?_eq_none (by omega)] at *
        simp only [Option.getD_none, valD] at *
        omega
    rw [e]
    simp only [valD, Nat.mul_add, Nat.mul_assoc]
    omega
  have room : 0 < cy ∨ i < l.length → i < n := by
    intro h0
    rcases h0 with h0|h0
    · apply Nat.lt_of_not_le
      intro hc
      have h1 : 256 ^ n ≤ 256 ^ i := Nat.pow_le_pow_right (by omega) hc
      have h2 : 256 ^ i * 1 ≤ 256 ^ i * (cy + valD (l.drop i)) := Nat.mul_le_mul_left _ (by omega)
      omega
    · omega
  have dig : ∀ x, Dig (d ++ [x % 256]) := by
    intro x y hy
    rcases List.mem_append.mp hy with h1|h1
    · exact hd y h1
    · simp only [List.mem_singleton] at h1; omega
  by_cases hA : i < l.length
  · have hx : l[i] ≤ 1099511627776 := hb _ (List.getElem_mem hA)
    refine Y5 ?_
    refine Zhm 9 rfl (decide_eq_true (hA)) ?_
    refine Y11 ?_
    refine Zhm 19 rfl (decide_eq_true (hA)) ?_
    refine Y2 ?_
    refine Zgt (fun F w H => (h.imp qI).someAt (by omega) H) ?_
    rintro ⟨a1, a2, rfl⟩
    refine Y5 ?_
    refine Zic (j := i) rfl (h.imp qI) hA (getM hA) ?_
    refine Y7 ?_
    refine Zh7 (cs := #[.int .i64 _]) (by omega) (by omega) rfl ?_; intro b29
    refine Zia rfl rfl qH (Rd.cl (xs := [nv ((cy + l[i]) % 256)]) qH rfl qZ rfl) qN (by omega) qS ?_; intro a3 c3
    refine V12 ?_
    refine Zgl (i + 1, (cy + l[i]) / 256, a3, c3, d ++ [(cy + l[i]) % 256]) qO ⟨room (.inr hA), by simp [hdl], by dsimp only; omega, dig _, step _ _ (by rw [List.getElem?_eq_getElem hA]; rfl) rfl⟩ ?_ ?_
    · dsimp only; rw [List.length_append, List.map_append]; exact Imp.arr (by repeat (first|exact Arr.nil|exact Arr.stop|refine Arr.cons (by repeat constructor) ?_|refine Arr.skip ?_))
    · dsimp only; rw [List.length_append]; exact ⟨rfl, rfl, rfl, trivial⟩
  · refine Y5 ?_
    refine Zhn 9 rfl (decide_eq_false (hA)) ?_
    refine V5 ?_
    refine Zgg rfl (fun hB => ?_) (fun hB => ?_)
    · refine Y5 ?_
      refine Zhn 19 rfl (decide_eq_false (hA)) ?_
      refine Y6 ?_
      refine Zh7 (cs := #[.int .i64 _]) (by omega) (by omega) rfl ?_; intro b29
      refine Zia rfl rfl qH (Rd.cl (xs := [nv (cy % 256)]) qH rfl qZ rfl) qN (by omega) qS ?_; intro a3 c3
      refine V12 ?_
      refine Zgl (i + 1, cy / 256, a3, c3, d ++ [cy % 256]) qO ⟨room (.inl hB), by simp [hdl], by dsimp only; omega, dig _, step _ _ (by rw [List.getElem?_eq_none (by omega)]; rfl) rfl⟩ ?_ ?_
      · dsimp only; rw [List.length_append, List.map_append]; exact Imp.arr (by repeat (first|exact Arr.nil|exact Arr.stop|refine Arr.cons (by repeat constructor) ?_|refine Arr.skip ?_))
      · dsimp only; rw [List.length_append]; exact ⟨rfl, rfl, rfl, trivial⟩
    · have hc0 : cy = 0 := by omega
      subst hc0
      rw [List.drop_eq_nil_of_le (by omega)] at hval
      refine V4 ?_
      refine rx1 (Zhc rfl (Zg7)) ?_
      exact ⟨_, ⟨da, dc, d, hd, by simp only [valD] at hval; omega, by omega, by omega, rfl, rfl⟩, by exact Imp.arr (by repeat (first|exact Arr.nil|exact Arr.stop|refine Arr.cons (by repeat constructor) ?_|refine Arr.skip ?_))⟩
theorem noughtD_x {L : List Asrt} {a : Option Addr} {c : Nat} {l : List Nat} (h : Rd L 1 (.slice a l.length c) l.length (l.map nv)) (hl : l.length ≤ 4096) :
    Con Tryz.prog 182 [.slice a l.length c] L (fun r M => r = .bool (decide (valD l = 0)) ∧ L = M) := by
  refine fn_x Tryz.func182 rfl rfl rfl Tryz.mixed (by kernel_rfl) ?_
  intro w0
  refine V6 ?_
  refine Zgo [(2, 14)] (by kernel_rfl) (fun i : Nat => i ≤ l.length ∧ valD (l.take i) = 0) (fun _ => L) (fun i => [(3, .int .i64 (i : Int))]) (fun i => l.length - i) 0 ⟨Nat.zero_le _, rfl⟩ (Imp.refl _) ⟨rfl, trivial⟩ ?_
  rintro i u ⟨hi, hz⟩
  refine V6 ?_
  refine Zgg rfl (fun hA => ?_) (fun hA => ?_)
  · refine Zgt (fun F w H => h.someAt (by omega) H) ?_
    rintro ⟨a1, a2, rfl⟩
    have hs : valD l = 256 ^ i * (l[i] + 256 * valD (l.drop (i + 1))) := by
      have e := valD_app (l.take i) (l.drop i)
      rw [List.take_append_drop, hz, List.drop_eq_getElem_cons hA, List.length_take, Nat.min_eq_left hi, Nat.zero_add] at e
      exact e
    refine Y4 ?_
    refine Zic (j := i) rfl h hA (getM hA) ?_
    refine V2 ?_
    refine Zgg rfl (fun h0 => ?_) (fun h0 => ?_)
    · refine V3 ?_
      refine rx1 (Zha rfl (Zg7)) ?_
      refine ⟨_, ⟨?_, rfl⟩, by exact Imp.arr (by repeat (first|exact Arr.nil|exact Arr.stop|refine Arr.cons (by repeat constructor) ?_|refine Arr.skip ?_))⟩
      have hz1 : ¬ l[i] = 0 := fun e => by rw [e] at h0; exact h0 rfl
      have : ¬ valD l = 0 := by
        rw [hs]
        exact Nat.ne_of_gt (Nat.mul_pos (Nat.pow_pos (by omega)) (by omega))
      rw [decide_eq_false this]
    · have hz1 : l[i] = 0 := by
        apply Classical.byContradiction; intro e; exact h0 (fun e2 => e (by first|exact e2|(simp at e2; omega)))
      refine V5 ?_
      refine Zgl (i + 1) qO ⟨by omega, ?_⟩ qI ⟨rfl, trivial⟩
      rw [List.take_succ_eq_append_getElem hA, valD_app, hz, hz1]; simp [valD]
  · refine V3 ?_
    refine rx1 (Zha rfl (Zg7)) ?_
    have hie : i = l.length := by omega
    rw [hie, List.take_length] at hz
    exact ⟨_, ⟨by rw [decide_eq_true hz], rfl⟩, by exact Imp.arr (by repeat (first|exact Arr.nil|exact Arr.stop|refine Arr.cons (by repeat constructor) ?_|refine Arr.skip ?_))⟩
end Go.Sl

/- the document's answer for the code, in digits: add, mul. -/
set_option maxHeartbeats 4000000
set_option maxRecDepth 10000
set_option linter.unusedVariables false
set_option linter.unusedSimpArgs false
namespace Go.Sl
open Go Go.Proofs
attribute [local irreducible] pt pur ex all den denOps denS xOps xC cX CX xthen xblk xcut xloop xng retX resX Calls PV Rd Con
theorem valD_set : ∀ (s : List Nat) (i y : Nat) (h : i < s.length), valD (s.set i (s[i] + y)) = valD s + 256 ^ i * y
  | x :: s, 0, y, _ => by simp [valD]; omega
  | x :: s, i + 1, y, h => by
    have := valD_set s i y (by simpa using h)
    simp only [List.set_cons_succ, List.getElem_cons_succ, valD, this, Nat.pow_succ, Nat.mul_add]
    rw [← Nat.mul_assoc, Nat.mul_comm 256 (256 ^ i)]; omega
theorem bnd_set {s : List Nat} {i y B C : Nat} (hs : ∀ x ∈ s, x ≤ B) (h : i < s.length) (hy : B + y ≤ C) : ∀ x ∈ s.set i (s[i] + y), x ≤ C := by
  intro x hx
  rcases List.mem_or_eq_of_mem_set hx with h1|h1
  · have := hs x h1; omega
  · have := hs _ (List.getElem_mem h); omega
theorem valD_take (l : List Nat) (i : Nat) (h : i < l.length) : valD (l.take (i + 1)) = valD (l.take i) + 256 ^ i * l[i] := by
  rw [List.take_succ_eq_append_getElem h, valD_app, List.length_take, Nat.min_eq_left (by omega)]; simp [valD]
theorem add_x {L : List Asrt} {aa ab : Option Addr} {ca cb n : Nat} {la lb : List Nat} (ha : Rd L 1 (.slice aa la.length ca) la.length (la.map nv)) (hb : Rd L 1 (.slice ab lb.length cb) lb.length (lb.map nv)) (da : Dig la) (db : Dig lb)
    (hla : la.length ≤ n) (hlb : lb.length ≤ n) (hn : n ≤ 4096) (hv : valD la + valD lb < 256 ^ n) :
    Con Tryz.prog 174 [.slice aa la.length ca, .slice ab lb.length cb] L (fun r M => ∃ a2 c2 d, Dig d ∧ valD d = valD la + valD lb ∧ d.length ≤ n ∧ r = .slice a2 d.length c2 ∧ M = own 3 1 r d.length (d.map nv) :: L) := by
  refine fn_x Tryz.func174 rfl rfl rfl Tryz.mixed (by kernel_rfl) ?_
  intro w0
  refine V14 ?_
  refine Zgn [(5, 5), (15, 16)] (by kernel_rfl) (fun N : Nat => la.length ≤ N ∧ lb.length ≤ N ∧ N ≤ n) (fun _ => L) (fun N => [(5, .int .i64 (N : Int))]) ?_ ?_
  · refine Zgg rfl (fun hA => ?_) (fun hA => ?_)
    · refine V5 ?_
      exact Zgk lb.length ⟨by omega, by omega, by omega⟩ qI ⟨rfl, trivial⟩
    · refine Ct.o ?_
      exact Zgk la.length ⟨by omega, by omega, by omega⟩ qI ⟨rfl, trivial⟩
  rintro N u ⟨h1, h2, h3⟩
  refine Y2 ?_
  refine Zm3 (f := nv) (a := 0) rfl rfl rfl qS qS qS ?_; intro b18
  refine V5 ?_
  refine Zgo [(7, 7), (19, 36)] (by kernel_rfl) (fun s : Nat × List Nat => s.1 ≤ la.length ∧ s.2.length = N ∧ (∀ x ∈ s.2, x ≤ 256 * s.1) ∧ valD s.2 = valD (la.take s.1))
    (fun s => cl b18 ((s.2.map nv).toArray) 3 :: L) (fun s => [(7, .int .i64 (s.1 : Int))]) (fun s => la.length - s.1) (0, List.replicate N 0) ⟨by show 0 ≤ _; omega, by simp, by intro x hx; simp at hx; show x ≤ 256 * 0; omega, by simp [valD_zeros, valD]⟩ qI ⟨rfl, trivial⟩ ?_
  rintro ⟨i, s⟩ u2 ⟨hi, hsl, hsb, hsv⟩
  dsimp only at hi hsl hsb hsv ⊢
  refine V6 ?_
  refine Zgg rfl (fun hA => ?_) (fun hA => ?_)
  · refine Zgt (fun F w H => (ha.imp qI).someAt (by omega) H) ?_
    rintro ⟨a1, a2, rfl⟩
    have hsi : i < s.length := by omega
    have hx : s[i] ≤ 256 * i := hsb _ (List.getElem_mem hsi)
    have hy : la[i] < 256 := da _ (List.getElem_mem hA)
    refine Ct.o ?_
    refine Zij (_) [9] (.q 0 (.q 1 (.q 2 (.q 3 (.q 4 (.q 6 (.q 7 (.q 8 (.r 5 (.r 9 (.q 10 (.q 11 (.e 12 false .nil))))))))))))) (by kernel_rfl) (by kernel_rfl) (Imp.refl _) ?_
    refine W8 ?_
    refine Ziv rfl rfl qH (by rw [List.getElem?_toArray]; exact getM hsi) ?_
    refine Zi8 (j := i) rfl rfl (ha.imp qI) hA (getM hA) ?_
    refine W2 ?_
    refine Ziq rfl ?_
    refine Zht rfl rfl qR qZ (setL (f := nv) (l := s)) ?_
    refine Zg3 ⟨(fun hh => Bool.noConfusion hh), ?_⟩
    refine Zik ?_
    refine V5 ?_
    refine Zgl (i + 1, s.set i (s[i] + la[i])) qO ⟨by dsimp only; omega, by simp [hsl], bnd_set hsb hsi (by dsimp only; omega), by dsimp only; rw [valD_set, hsv, valD_take _ _ hA]⟩ qI ⟨rfl, trivial⟩
  have hie : i = la.length := by omega
  subst hie
  rw [List.take_length] at hsv
  refine V3 ?_
  refine Zgo [(8, 8), (37, 54)] (by kernel_rfl) (fun s : Nat × List Nat => s.1 ≤ lb.length ∧ s.2.length = N ∧ (∀ x ∈ s.2, x ≤ 256 * (la.length + s.1)) ∧ valD s.2 = valD la + valD (lb.take s.1))
    (fun s => cl b18 ((s.2.map nv).toArray) 3 :: L) (fun s => [(8, .int .i64 (s.1 : Int))]) (fun s => lb.length - s.1) (0, s) ⟨by show 0 ≤ _; omega, hsl, hsb, by rw [hsv]; simp [valD]⟩ qI ⟨rfl, trivial⟩ ?_
  rintro ⟨i, s2⟩ u3 ⟨hi, hsl, hsb, hsv⟩
  dsimp only at hi hsl hsb hsv ⊢
  refine V6 ?_
  refine Zgg rfl (fun hA => ?_) (fun hA => ?_)
  · refine Zgt (fun F w H => (hb.imp qI).someAt (by omega) H) ?_
    rintro ⟨a1, a2, rfl⟩
    have hsi : i < s2.length := by omega
    have hx : s2[i] ≤ 256 * (la.length + i) := hsb _ (List.getElem_mem hsi)
    have hy : lb[i] < 256 := db _ (List.getElem_mem hA)
    refine Ct.o ?_
    refine Zij (_) [9] (.q 0 (.q 1 (.q 2 (.q 3 (.q 4 (.q 6 (.q 7 (.q 8 (.r 5 (.r 9 (.q 10 (.q 11 (.e 12 false .nil))))))))))))) (by kernel_rfl) (by kernel_rfl) (Imp.refl _) ?_
    refine W8 ?_
    refine Ziv rfl rfl qH (by rw [List.getElem?_toArray]; exact getM hsi) ?_
    refine Zi8 (j := i) rfl rfl (hb.imp qI) hA (getM hA) ?_
    refine W2 ?_
    refine Ziq rfl ?_
    refine Zht rfl rfl qR qZ (setL (f := nv) (l := s2)) ?_
    refine Zg3 ⟨(fun hh => Bool.noConfusion hh), ?_⟩
    refine Zik ?_
    refine V5 ?_
    refine Zgl (i + 1, s2.set i (s2[i] + lb[i])) qO ⟨by dsimp only; omega, by simp [hsl], bnd_set hsb hsi (by dsimp only; omega), by dsimp only; rw [valD_set, hsv, valD_take _ _ hA, Nat.add_assoc]⟩ qI ⟨rfl, trivial⟩
  have hie : i = lb.length := by omega
  subst hie
  rw [List.take_length] at hsv
  subst hsl
  have hbb : ∀ x ∈ s2, x ≤ 1099511627776 := fun x hx => by have := hsb x hx; omega
  have hrd : Rd (cl b18 (s2.map nv).toArray 3 :: L) 1 (.slice (some ⟨b18, 0, none⟩) s2.length s2.length) s2.length (s2.map nv) := Rd.cl (o := 0) .here (by simp) (by rw [szL]; omega) (by simp; exact List.take_of_length_le (by simp))
  refine Y2 ?_
  refine Zh8 rfl (by kernel_rfl) (clean_x (n := n) (l := s2) hrd hbb h3 hn (by omega)) rfl qT ?_
  rintro _ _ ⟨a2, c2, d, hd, hdv, hdn, _, rfl, rfl⟩
  refine V3 ?_
  refine rx1 (Zhc rfl (Zg7)) ?_
  exact ⟨_, ⟨a2, c2, d, hd, by omega, hdn, rfl, rfl⟩, by exact Imp.arr (by repeat (first|exact Arr.nil|exact Arr.stop|refine Arr.cons (by repeat constructor) ?_|refine Arr.skip ?_))⟩
end Go.Sl

/- the document's answer for the code, in digits: mul. -/
set_option maxHeartbeats 4000000
set_option maxRecDepth 10000
set_option linter.unusedVariables false
set_option linter.unusedSimpArgs false
namespace Go.Sl
open Go Go.Proofs
attribute [local irreducible] pt pur ex all den denOps denS xOps xC cX CX xthen xblk xcut xloop xng retX resX Calls PV Rd Con
theorem mul_x {L : List Asrt} {aa ab : Option Addr} {ca cb n : Nat} {la lb : List Nat} (ha : Rd L 1 (.slice aa la.length ca) la.length (la.map nv)) (hb : Rd L 1 (.slice ab lb.length cb) lb.length (lb.map nv)) (da : Dig la) (db : Dig lb)
    (hla : la.length ≤ 1024) (hlb : lb.length ≤ 1024) (hln : la.length + lb.length ≤ n) (hn : n ≤ 4096) (hv : valD la * valD lb < 256 ^ n) :
    Con Tryz.prog 173 [.slice aa la.length ca, .slice ab lb.length cb] L (fun r M => ∃ a2 c2 d, Dig d ∧ valD d = valD la * valD lb ∧ d.length ≤ n ∧ r = .slice a2 d.length c2 ∧ M = own 3 1 r d.length (d.map nv) :: L) := by
  refine fn_x Tryz.func173 rfl rfl rfl Tryz.mixed (by kernel_rfl) ?_
  intro w0
  refine Y9 ?_
  refine Zm3 (f := nv) (a := 0) rfl rfl rfl qS qS qS ?_; intro b13
  refine V5 ?_
  refine Zgo [(6, 7), (14, 46)] (by kernel_rfl) (fun s : Nat × List Nat => s.1 ≤ la.length ∧ s.2.length = la.length + lb.length ∧ (∀ x ∈ s.2, x ≤ 65536 * (1024 * s.1)) ∧ valD s.2 = valD (la.take s.1) * valD lb)
    (fun s => cl b13 ((s.2.map nv).toArray) 3 :: L) (fun s => [(6, .int .i64 (s.1 : Int))]) (fun s => la.length - s.1) (0, List.replicate (la.length + lb.length) 0) ⟨by show 0 ≤ _; omega, by simp, by intro x hx; simp at hx; show x ≤ 65536 * (1024 * 0); omega, by simp [valD_zeros, valD]⟩ qI ⟨rfl, trivial⟩ ?_
  rintro ⟨i, s⟩ u2 ⟨hi, hsl, hsb, hsv⟩
  dsimp only at hi hsl hsb hsv ⊢
  refine V6 ?_
  refine Zgg rfl (fun hA => ?_) (fun hA => ?_)
  · refine V3 ?_
    refine Zgo [(7, 7), (20, 46)] (by kernel_rfl) (fun t : Nat × List Nat => t.1 ≤ lb.length ∧ t.2.length = la.length + lb.length ∧ (∀ x ∈ t.2, x ≤ 65536 * (1024 * i + t.1)) ∧ valD t.2 = valD (la.take i) * valD lb + 256 ^ i * (la[i] * valD (lb.take t.1)))
      (fun t => cl b13 ((t.2.map nv).toArray) 3 :: L) (fun t => [(7, .int .i64 (t.1 : Int))]) (fun t => lb.length - t.1) (0, s) ⟨by show 0 ≤ _; omega, hsl, hsb, by rw [hsv]; simp [valD]⟩ qI ⟨rfl, trivial⟩ ?_
    rintro ⟨k, t⟩ u3 ⟨hk, htl, htb, htv⟩
    dsimp only at hk htl htb htv ⊢
    refine V6 ?_
    refine Zgg rfl (fun hB => ?_) (fun hB => ?_)
    · refine Zgt (fun F w H => (ha.imp qI).someAt (by omega) H) ?_
      rintro ⟨a1, a2, rfl⟩
      refine Zgt (fun F w H => (hb.imp qI).someAt (by omega) H) ?_
      rintro ⟨a3, a4, rfl⟩
      have hti : i + k < t.length := by omega
      have hx : t[i + k] ≤ 65536 * (1024 * i + k) := htb _ (List.getElem_mem hti)
      have hy : la[i] < 256 := da _ (List.getElem_mem hA)
      have hz : lb[k] < 256 := db _ (List.getElem_mem hB)
      have hp : la[i] * lb[k] ≤ 65536 := Nat.le_trans (Nat.mul_le_mul (Nat.le_of_lt hy) (Nat.le_of_lt hz)) (by omega)
      refine Ct.o ?_
      refine Zij (_) [13, 17, 18] (.q 0 (.q 1 (.q 2 (.q 3 (.q 4 (.q 5 (.q 6 (.q 7 (.q 8 (.q 10 (.q 11 (.q 12 (.q 14 (.q 15 (.q 16 (.r 9 (.r 13 (.r 17 (.r 18 (.q 19 (.q 20 (.e 21 false .nil)))))))))))))))))))))) (by kernel_rfl) (by kernel_rfl) (Imp.refl _) ?_
      refine W8 ?_
      first|refine Zim rfl (Zl4 (n := i + k) rfl (int_eq (by push_cast; omega))) ?_|refine Zim rfl (Zl1 (n := i + k) rfl (int_eq (by push_cast; omega))) ?_
      refine W6 ?_
      refine Ziv rfl rfl qH (by rw [List.getElem?_toArray]; exact getM hti) ?_
      refine Zi8 (j := i) rfl rfl (ha.imp qI) hA (getM hA) ?_
      refine Zi8 (j := k) rfl rfl (hb.imp qI) hB (getM hB) ?_
      refine W2 ?_
      first|refine Zim rfl (Zl4 (n := i + k) rfl (int_eq (by push_cast; omega))) ?_|refine Zim rfl (Zl1 (n := i + k) rfl (int_eq (by push_cast; omega))) ?_
      refine Ziq rfl ?_
      refine Zht rfl rfl qR qZ (setL (f := nv) (l := t)) ?_
      refine Zg3 ⟨(fun hh => Bool.noConfusion hh), ?_⟩
      refine Zik ?_
      refine V5 ?_
      refine Zgl (k + 1, t.set (i + k) (t[i + k] + la[i] * lb[k])) qO ⟨by dsimp only; omega, by simp [htl], bnd_set htb hti (by dsimp only; omega), ?_⟩ qI ⟨rfl, trivial⟩
      dsimp only
      rw [valD_set, htv, valD_take _ _ hB, Nat.pow_add]
      simp only [Nat.mul_add, Nat.add_assoc]
      rw [show 256 ^ i * (la[i] * (256 ^ k * lb[k])) = 256 ^ i * 256 ^ k * (la[i] * lb[k]) by rw [Nat.mul_left_comm la[i], Nat.mul_assoc]]
    · have hke : k = lb.length := by omega
      subst hke
      rw [List.take_length] at htv
      refine V5 ?_
      refine Zgl (i + 1, t) qO ⟨by dsimp only; omega, htl, fun x hx => by have := htb x hx; dsimp only; omega, by dsimp only; rw [htv, valD_take _ _ hA, Nat.add_mul, Nat.mul_assoc]⟩ qI ⟨rfl, trivial⟩
  · have hie : i = la.length := by omega
    subst hie
    rw [List.take_length] at hsv
    have hbb : ∀ x ∈ s, x ≤ 1099511627776 := fun x hx => by have := hsb x hx; omega
    have hrd : Rd (cl b13 (s.map nv).toArray 3 :: L) 1 (.slice (some ⟨b13, 0, none⟩) s.length s.length) s.length (s.map nv) := Rd.cl (o := 0) .here (by simp) (by rw [szL]; omega) (by simp; exact List.take_of_length_le (by simp))
    rw [← hsl]
    refine Y2 ?_
    refine Zh8 rfl (by kernel_rfl) (clean_x (n := n) (l := s) hrd hbb (by omega) hn (by rw [hsv]; exact hv)) rfl qT ?_
    rintro _ _ ⟨a2, c2, d, hd, hdv, hdn, _, rfl, rfl⟩
    refine V3 ?_
    refine rx1 (Zhc rfl (Zg7)) ?_
    exact ⟨_, ⟨a2, c2, d, hd, by rw [hdv, hsv], hdn, rfl, rfl⟩, by exact Imp.arr (by repeat (first|exact Arr.nil|exact Arr.stop|refine Arr.cons (by repeat constructor) ?_|refine Arr.skip ?_))⟩
end Go.Sl

/- the document's answer for the code, in digits: part, low. -/
set_option maxHeartbeats 4000000
set_option maxRecDepth 10000
set_option linter.unusedVariables false
set_option linter.unusedSimpArgs false
namespace Go.Sl
open Go Go.Proofs
attribute [local irreducible] pt pur ex all den denOps denS xOps xC cX CX xthen xblk xcut xloop xng retX resX Calls PV Rd Con
/-- The digits below 2^130. -/
def lowD (l : List Nat) (i : Nat) : List Nat := if i ≤ 16 then l.take i else l.take 16 ++ [(l[16]?.getD 0) % 4]
theorem low_x {L : List Asrt} {a : Option Addr} {c : Nat} {l : List Nat} (h : Rd L 1 (.slice a l.length c) l.length (l.map nv)) (hl : l.length ≤ 4096) :
    Con Tryz.prog 181 [.slice a l.length c, .bool false] L (fun r M => ∃ a2 c2 d, d = lowD l l.length ∧ r = .slice a2 d.length c2 ∧ M = own 3 1 r d.length (d.map nv) :: L) := by
  refine fn_x Tryz.func181 rfl rfl rfl Tryz.mixed (by kernel_rfl) ?_
  intro w0
  refine V9 ?_
  refine Zgo [(5, 85)] (by kernel_rfl) (fun s : Nat × Option Addr × Nat × List Nat => s.1 ≤ l.length ∧ s.2.2.2 = lowD l s.1)
    (fun s => own 3 1 (.slice s.2.1 s.2.2.2.length s.2.2.1) s.2.2.2.length (s.2.2.2.map nv) :: L)
    (fun s => [(6, .int .i64 (s.1 : Int)), (5, .slice s.2.1 s.2.2.2.length s.2.2.1)]) (fun s => l.length - s.1) (0, none, 0, []) ⟨Nat.zero_le _, by simp [lowD]⟩ Imp.own_nil ⟨rfl, rfl, trivial⟩ ?_
  rintro ⟨i, da, dc, d⟩ u ⟨hi, hd⟩
  dsimp only at hi hd ⊢
  have hdl : d.length ≤ 17 := by rw [hd]; unfold lowD; split <;> simp <;> omega
  refine V6 ?_
  refine Zgg rfl (fun hA => ?_) (fun hA => ?_)
  · refine Zgt (fun F w H => (h.imp qI).someAt (by omega) H) ?_
    rintro ⟨a1, a2, rfl⟩
    refine V9 ?_
    refine Zgg rfl (fun hB => ?_) (fun hB => ?_)
    · refine Y5 ?_
      refine Zic (j := i) rfl (h.imp qI) hA (getM hA) ?_
      refine Zh7 (cs := #[.int .i64 _]) (by omega) (by omega) rfl ?_; intro b25
      refine Zia rfl rfl qH (Rd.cl (xs := [nv l[i]]) qH rfl qZ rfl) qN (by omega) qS ?_; intro a3 c3
      refine V7 ?_
      refine Zgl (i + 1, a3, c3, d ++ [l[i]]) qO ⟨by dsimp only; omega, ?_⟩ ?_ ?_
      · dsimp only; rw [hd, lowD, lowD, if_pos (by omega), if_pos (by omega), List.take_succ_eq_append_getElem hA]
      · dsimp only; rw [List.length_append, List.map_append]; exact Imp.arr (by repeat (first|exact Arr.nil|exact Arr.stop|refine Arr.cons (by repeat constructor) ?_|refine Arr.skip ?_))
      · dsimp only; rw [List.length_append]; exact ⟨rfl, rfl, trivial⟩
    · refine V9 ?_
      refine Zgg rfl (fun hC => ?_) (fun hC => ?_)
      · have hi16 : i = 16 := by omega
        subst hi16
        refine Y5 ?_
        refine Zic (j := 16) rfl (h.imp qI) hA (getM hA) ?_
        refine Y1 ?_
        refine Zh7 (cs := #[.int .i64 _]) (by omega) (by omega) rfl ?_; intro b40
        refine Zia rfl rfl qH (Rd.cl (xs := [nv (l[16] % 4)]) qH rfl qZ rfl) qN (by omega) qS ?_; intro a3 c3
        refine V7 ?_
        refine Zgl (16 + 1, a3, c3, d ++ [l[16] % 4]) qO ⟨by dsimp only; omega, ?_⟩ ?_ ?_
        · dsimp only; rw [hd, lowD, lowD, if_pos (by omega), if_neg (by omega), List.getElem?_eq_getElem hA]; rfl
        · dsimp only; rw [List.length_append, List.map_append]; exact Imp.arr (by repeat (first|exact Arr.nil|exact Arr.stop|refine Arr.cons (by repeat constructor) ?_|refine Arr.skip ?_))
        · dsimp only; rw [List.length_append]; exact ⟨rfl, rfl, trivial⟩
      · refine V23 ?_
        exact Zgl (i + 1, da, dc, d) qO ⟨by dsimp only; omega, by dsimp only; rw [hd, lowD, lowD, if_neg (by omega), if_neg (by omega)]⟩ qI ⟨rfl, rfl, trivial⟩
  · have hie : i = l.length := by omega
    subst hie
    refine V4 ?_
    refine rx1 (Zhc rfl (Zg7)) ?_
    exact ⟨_, ⟨da, dc, d, hd, rfl, rfl⟩, by exact Imp.arr (by repeat (first|exact Arr.nil|exact Arr.stop|refine Arr.cons (by repeat constructor) ?_|refine Arr.skip ?_))⟩
theorem lowD_val (l : List Nat) (h : Dig l) : valD (lowD l l.length) = valD l % 1361129467683753853853498429727072845824 ∧ Dig (lowD l l.length) ∧ (lowD l l.length).length ≤ 17 := by
  unfold lowD
  have p16 : (256 : Nat) ^ 16 = 340282366920938463463374607431768211456 := by decide
  have hall : ∀ k, Dig (l.take k) := fun k x hx => h x (List.mem_of_mem_take hx)
  split
  · rename_i h16
    rw [List.take_length]
    have hlt := valD_lt l h
    have hle : 256 ^ l.length ≤ 256 ^ 16 := Nat.pow_le_pow_right (by omega) h16
    exact ⟨by omega, h, by omega⟩
  · rename_i h16
    have h16 : 16 < l.length := by omega
    have e := valD_app (l.take 16) (l.drop 16)
    have hlt := valD_lt (l.take 16) (hall 16)
    have hlen : (l.take 16).length = 16 := by simp; omega
    rw [List.take_append_drop, hlen, p16, List.drop_eq_getElem_cons h16] at e
    rw [hlen, p16] at hlt
    simp only [valD] at e
    refine ⟨?_, ?_, by simp; omega⟩
    · rw [valD_app, hlen, p16, List.getElem?_eq_getElem h16]
      simp only [valD, Option.getD_some]
      omega
    · intro x hx
      rcases List.mem_append.mp hx with h1|h1
      · exact hall 16 x h1
      · simp only [List.mem_singleton] at h1; omega
end Go.Sl

/- the document's answer for the code, in digits: part, high. -/
set_option maxHeartbeats 4000000
set_option maxRecDepth 10000
set_option linter.unusedVariables false
set_option linter.unusedSimpArgs false
namespace Go.Sl
open Go Go.Proofs
attribute [local irreducible] pt pur ex all den denOps denS xOps xC cX CX xthen xblk xcut xloop xng retX resX Calls PV Rd Con
theorem high_step (l : List Nat) (i : Nat) (hi : 17 ≤ i) (hA : i < l.length) : valD (l.take (i + 1)) / 1361129467683753853853498429727072845824 = valD (l.take i) / 1361129467683753853853498429727072845824 + 256 ^ (i - 17) * (64 * l[i]) := by
  have p17 : (256 : Nat) ^ 17 = 1361129467683753853853498429727072845824 * 64 := by decide
  have e : 256 ^ i * l[i] = 1361129467683753853853498429727072845824 * (256 ^ (i - 17) * (64 * l[i])) := by
    have : 256 ^ i = 256 ^ 17 * 256 ^ (i - 17) := by rw [← Nat.pow_add]; congr 1; omega
    rw [this, p17]
    simp only [Nat.mul_assoc, Nat.mul_left_comm (64 : Nat)]
  rw [valD_take _ _ hA, e, Nat.add_mul_div_left _ _ (by omega)]
theorem high_16 (l : List Nat) (hA : 16 < l.length) (h : Dig l) : valD (l.take 17) / 1361129467683753853853498429727072845824 = l[16] / 4 := by
  have p16 : (256 : Nat) ^ 16 = 340282366920938463463374607431768211456 := by decide
  have hlt := valD_lt (l.take 16) (fun x hx => h x (List.mem_of_mem_take hx))
  have hlen : (l.take 16).length = 16 := by simp; omega
  rw [hlen, p16] at hlt
  rw [valD_take _ _ hA, p16]
  omega
theorem high_lo (l : List Nat) (i : Nat) (hi : i ≤ 16) (h : Dig l) : valD (l.take i) / 1361129467683753853853498429727072845824 = 0 := by
  have p16 : (256 : Nat) ^ 16 = 340282366920938463463374607431768211456 := by decide
  have hlt := valD_lt (l.take i) (fun x hx => h x (List.mem_of_mem_take hx))
  have hle : 256 ^ (l.take i).length ≤ 256 ^ 16 := Nat.pow_le_pow_right (by omega) (by simp; omega)
  rw [p16] at hle
  omega
theorem high_x {L : List Asrt} {a : Option Addr} {c : Nat} {l : List Nat} (h : Rd L 1 (.slice a l.length c) l.length (l.map nv)) (hl : l.length ≤ 4096) (hd0 : Dig l) :
    Con Tryz.prog 181 [.slice a l.length c, .bool true] L (fun r M => ∃ a2 c2 d, Dig d ∧ valD d = valD l / 1361129467683753853853498429727072845824 ∧ d.length = l.length - 16 ∧ r = .slice a2 d.length c2 ∧ M = own 3 1 r d.length (d.map nv) :: L) := by
  refine fn_x Tryz.func181 rfl rfl rfl Tryz.mixed (by kernel_rfl) ?_
  intro w0
  refine V9 ?_
  refine Zgo [(5, 85)] (by kernel_rfl) (fun s : Nat × Option Addr × Nat × List Nat => s.1 ≤ l.length ∧ Dig s.2.2.2 ∧ s.2.2.2.length = s.1 - 16 ∧ valD s.2.2.2 = valD (l.take s.1) / 1361129467683753853853498429727072845824 ∧ (∀ x, s.2.2.2.getLast? = some x → x ≤ 63))
    (fun s => own 3 1 (.slice s.2.1 s.2.2.2.length s.2.2.1) s.2.2.2.length (s.2.2.2.map nv) :: L)
    (fun s => [(6, .int .i64 (s.1 : Int)), (5, .slice s.2.1 s.2.2.2.length s.2.2.1)]) (fun s => l.length - s.1) (0, none, 0, []) ⟨Nat.zero_le _, by intro x hx; simp at hx, rfl, by simp [valD], by simp⟩ Imp.own_nil ⟨rfl, rfl, trivial⟩ ?_
  rintro ⟨i, da, dc, d⟩ u ⟨hi, hd, hdl, hdv, hlast⟩
  dsimp only at hi hd hdl hdv hlast ⊢
  refine V6 ?_
  refine Zgg rfl (fun hA => ?_) (fun hA => ?_)
  · refine Zgt (fun F w H => (h.imp qI).someAt (by omega) H) ?_
    rintro ⟨a1, a2, rfl⟩
    refine Y20 ?_
    have hx : l[i] < 256 := hd0 _ (List.getElem_mem hA)
    by_cases hB : i = 16
    · subst hB
      have hdn : d = [] := List.eq_nil_of_length_eq_zero (by omega)
      subst hdn
      refine Y14 ?_
      refine Zic (j := 16) rfl (h.imp qI) hA (getM hA) ?_
      refine Y1 ?_
      refine Zh7 (cs := #[.int .i64 _]) (by omega) (by omega) rfl ?_; intro b54
      refine Zia rfl rfl qH (Rd.cl (xs := [nv (l[16] / 4)]) qH rfl qZ rfl) qN (by omega) qS ?_; intro a3 c3
      refine V7 ?_
      refine Zgl (16 + 1, a3, c3, [l[16] / 4]) qO ⟨by dsimp only; omega, ?_, rfl, ?_, ?_⟩ qI ⟨rfl, rfl, trivial⟩
      · intro x hx; simp only [List.mem_singleton] at hx; omega
      · dsimp only; rw [high_16 l hA hd0]; simp [valD]
      · intro x hx; simp at hx; omega
    · refine V8 ?_
      refine Zgf (by show Value.bool (decide _) = _; rw [decide_eq_false (by omega)]) ?_
      refine V8 ?_
      refine Zgg rfl (fun hC => ?_) (fun hC => ?_)
      · have hli : i - 17 < d.length := by omega
        have hlv : d[i - 17] ≤ 63 := hlast _ (by rw [List.getLast?_eq_getElem?, show d.length - 1 = i - 17 by omega, List.getElem?_eq_getElem hli])
        refine Zgt (fun F w H => own_some .here (by omega) H) ?_
        rintro ⟨g, rfl⟩
        have gl : (d.map nv)[i - 17]? = some (nv d[i - 17]) := getM hli
        refine Ct.o ?_
        refine Zij (_) [11, 12, 13] (.q 0 (.q 1 (.q 2 (.q 3 (.q 4 (.q 5 (.q 6 (.q 8 (.q 9 (.q 10 (.r 7 (.r 11 (.r 12 (.r 13 (.q 14 (.q 15 (.e 16 false .nil))))))))))))))))) (by kernel_rfl) (by kernel_rfl) (Imp.refl _) ?_
        refine W10 ?_
        refine Zi8 (b := g) (o := 0) (j := i - 17) rfl (by rw [Nat.zero_add]; rfl) (Rd.own qH) hli gl ?_
        refine Zi8 (j := i) rfl rfl (h.imp qI) hA (getM hA) ?_
        refine W4 ?_
        refine Ziq rfl ?_; refine Zm7 (u := nv (d[i - 17] + l[i] % 4 * 64)) (i := i - 17) (xs := d.map nv) (ys := (d.set (i - 17) (d[i - 17] + l[i] % 4 * 64)).map nv) rfl rfl rfl qR hli (by rw [List.map_set]) ?_; refine Zg3 ⟨(fun hh => Bool.noConfusion hh), ?_⟩
        refine Zik ?_
        refine Y5 ?_
        refine Zic (j := i) rfl (h.imp qI) hA (getM hA) ?_
        refine Y1 ?_
        refine Zh7 (cs := #[.int .i64 _]) (by omega) (by omega) rfl ?_; intro b84
        refine Zia rfl rfl qH (Rd.cl (xs := [nv (l[i] / 4)]) qH rfl qZ rfl) qN (by omega) qS ?_; intro a3 c3
        refine V7 ?_
        refine Zgl (i + 1, a3, c3, d.set (i - 17) (d[i - 17] + l[i] % 4 * 64) ++ [l[i] / 4]) qO ⟨by dsimp only; omega, ?_, by simp; omega, ?_, ?_⟩ ?_ ?_
        · intro x hx
          rcases List.mem_append.mp hx with h1|h1
          · rcases List.mem_or_eq_of_mem_set h1 with h2|h2
            · exact hd x h2
            · omega
          · simp only [List.mem_singleton] at h1; omega
        · dsimp only
          rw [high_step l i (by omega) hA, ← hdv, valD_app, valD_set, List.length_set, hdl, show i - 16 = (i - 17) + 1 by omega, Nat.pow_succ]
          simp only [valD, Nat.add_assoc, Nat.mul_assoc, ← Nat.mul_add, Nat.mul_zero, Nat.add_zero]
          congr 2; omega
        · intro x hx; simp at hx; omega
        · dsimp only; rw [List.length_append, List.length_set, List.map_append]; exact Imp.arr (by repeat (first|exact Arr.nil|exact Arr.stop|refine Arr.cons (by repeat constructor) ?_|refine Arr.skip ?_))
        · dsimp only; rw [List.length_append, List.length_set]; exact ⟨rfl, rfl, trivial⟩
      · refine V5 ?_
        exact Zgl (i + 1, da, dc, d) qO ⟨by dsimp only; omega, hd, by dsimp only; omega, by dsimp only; rw [hdv, high_lo l i (by omega) hd0, high_lo l (i + 1) (by omega) hd0], hlast⟩ qI ⟨rfl, rfl, trivial⟩
  · have hie : i = l.length := by omega
    subst hie
    rw [List.take_length] at hdv
    refine V4 ?_
    refine rx1 (Zhc rfl (Zg7)) ?_
    exact ⟨_, ⟨da, dc, d, hd, hdv, hdl, rfl, rfl⟩, by exact Imp.arr (by repeat (first|exact Arr.nil|exact Arr.stop|refine Arr.cons (by repeat constructor) ?_|refine Arr.skip ?_))⟩
end Go.Sl

/- the document's answer for the code, in digits: fold. -/
set_option maxHeartbeats 4000000
set_option maxRecDepth 10000
set_option linter.unusedVariables false
set_option linter.unusedSimpArgs false
namespace Go.Sl
open Go Go.Proofs
attribute [local irreducible] pt pur ex all den denOps denS xOps xC cX CX xthen xblk xcut xloop xng retX resX Calls PV Rd Con
theorem rd_five {b : Nat} {M M' : List Asrt} (h : Has M (cl b #[.int .i64 5] 3) M') : Rd M 1 (.slice (some ⟨b, 0, none⟩) ([5] : List Nat).length 1) ([5] : List Nat).length (([5] : List Nat).map nv) :=
  Rd.cl (o := 0) h rfl qZ rfl
theorem rd_own {E : Nat} {v : Value} {n : Nat} {l : List Nat} {M M' : List Asrt} (h : Has M (own E 1 v n (l.map nv)) M') : Rd M 1 v n (l.map nv) := Rd.own h
theorem dig_five : Dig [5] := by intro x hx; simp at hx; omega
theorem valD_le {l : List Nat} {n : Nat} (h : Dig l) (hl : l.length ≤ n) : valD l < 256 ^ n := Nat.lt_of_lt_of_le (valD_lt l h) (Nat.pow_le_pow_right (by omega) hl)
theorem mul5_le {l : List Nat} (h : Dig l) (hl : l.length ≤ 46) : valD l * valD [5] < 256 ^ 47 := by
  have := valD_le h hl
  rw [show (256 : Nat) ^ 47 = 256 ^ 46 * 256 from Nat.pow_succ ..]
  simp only [valD]; omega
theorem add_le2 {a b : List Nat} (ha : Dig a) (hb : Dig b) (hl : a.length ≤ 61) (hl2 : b.length ≤ 61) : valD a + valD b < 256 ^ 62 := by
  have := valD_le ha hl; have := valD_le hb hl2
  rw [show (256 : Nat) ^ 62 = 256 ^ 61 * 256 from Nat.pow_succ ..]
  omega
theorem fold_fin (v m : Nat) (h : v < 1361129467683753853853498429727072845824) (hm : m = v + 5) :
    (m / 1361129467683753853853498429727072845824 = 0 → v % 1361129467683753853853498429727072845824 = v % 1361129467683753853853498429727072845819) ∧ (¬ m / 1361129467683753853853498429727072845824 = 0 → m % 1361129467683753853853498429727072845824 = v % 1361129467683753853853498429727072845819) := by
  subst hm; constructor <;> intro h2 <;> omega
theorem fold_x {L : List Asrt} {a : Option Addr} {c : Nat} {l : List Nat} (h : Rd L 1 (.slice a l.length c) l.length (l.map nv)) (hl : l.length ≤ 62) (hd0 : Dig l) :
    Con Tryz.prog 172 [.slice a l.length c] L (fun r M => ∃ a2 c2 d, Dig d ∧ valD d = valD l % 1361129467683753853853498429727072845819 ∧ d.length ≤ 17 ∧ r = .slice a2 d.length c2 ∧ M = own 3 1 r d.length (d.map nv) :: L) := by
  refine fn_x Tryz.func172 rfl rfl rfl Tryz.mixed (by kernel_rfl) ?_
  intro w0
  refine Y5 ?_
  refine Zh8 rfl (by kernel_rfl) (high_x h (by omega) hd0) rfl qT ?_
  rintro _ _ ⟨ah, ch, hh, hhd, hhv, hhl, rfl, rfl⟩
  refine V3 ?_
  refine Zgo [(0, 0), (3, 3), (7, 17)] (by kernel_rfl) (fun s : List Asrt × (Option Addr × Nat × List Nat) × (Option Addr × Nat × List Nat) => Imp s.1 L ∧ Rd s.1 1 (.slice s.2.1.1 s.2.1.2.2.length s.2.1.2.1) s.2.1.2.2.length (s.2.1.2.2.map nv) ∧ Dig s.2.1.2.2 ∧ s.2.1.2.2.length ≤ 62 ∧ valD s.2.1.2.2 % 1361129467683753853853498429727072845819 = valD l % 1361129467683753853853498429727072845819 ∧
      Rd s.1 1 (.slice s.2.2.1 s.2.2.2.2.length s.2.2.2.1) s.2.2.2.2.length (s.2.2.2.2.map nv) ∧ Dig s.2.2.2.2 ∧ valD s.2.2.2.2 = valD s.2.1.2.2 / 1361129467683753853853498429727072845824 ∧ s.2.2.2.2.length = s.2.1.2.2.length - 16)
    (fun s => s.1)
    (fun s => [(0, .slice s.2.1.1 s.2.1.2.2.length s.2.1.2.1), (3, .slice s.2.2.1 s.2.2.2.2.length s.2.2.2.1)]) (fun s => valD s.2.1.2.2) (own 3 1 (.slice ah hh.length ch) hh.length (hh.map nv) :: L, (a, c, l), (ah, ch, hh)) ⟨Imp.tail, h.imp Imp.tail, hd0, hl, rfl, rd_own .here, hhd, hhv, hhl⟩ (Imp.refl _) ⟨rfl, rfl, trivial⟩ ?_
  clear hhd hhv hhl
  rintro ⟨E, ⟨da, dc, d⟩, ⟨ah2, ch2, hi⟩⟩ u ⟨hE, hrd, hd, hdl, hdv, hrh, hhd, hhv, hhl⟩
  dsimp only at hE hrd hd hdl hdv hrh hhd hhv hhl ⊢
  refine Y2 ?_
  refine Zh8 rfl (by kernel_rfl) (noughtD_x (L := E) hrh (by omega)) rfl qT ?_
  rintro _ _ ⟨rfl, rfl⟩
  refine V3 ?_
  refine Zgg (p := ¬ valD hi = 0) (by show Value.bool _ = _; simp) (fun hA => ?_) (fun hA => ?_)
  · have hlv := (lowD_val d hd).2.2
    refine Y2 ?_
    refine Zh8 rfl (by kernel_rfl) (low_x (L := E) hrd (by omega)) rfl qT ?_
    rintro _ _ ⟨al, ccl, lo, rfl, rfl, rfl⟩
    refine Y2 ?_
    refine Zh7 (cs := #[.int .i64 _]) (by omega) (by omega) rfl ?_; intro b13
    refine Zh8 rfl (by kernel_rfl) (mul_x (L := cl b13 #[.int .i64 5] 3 :: E) (n := 47) (la := hi) (lb := [5]) (hrh.imp Imp.tail) (rd_five .here) hhd dig_five (by omega) (by simp) (by simp; omega) (by omega) (mul5_le hhd (by omega))) rfl qT ?_
    rintro _ _ ⟨am, cm, mm, hmd, hmv, hml, rfl, rfl⟩
    refine Y1 ?_
    refine Zh8 rfl (by kernel_rfl) (add_x (L := own 3 1 (.slice al (lowD d d.length).length ccl) (lowD d d.length).length ((lowD d d.length).map nv) :: own 3 1 (.slice am mm.length cm) mm.length (mm.map nv) :: E) (n := 62) (rd_own .here) (rd_own (.there .here)) (lowD_val d hd).2.1 hmd (by omega) (by omega) (by omega) (add_le2 (lowD_val d hd).2.1 hmd (by omega) (by omega))) rfl qT ?_
    rintro _ _ ⟨a5, c5, ss, hsd, hsv, hsl, rfl, rfl⟩
    refine V3 ?_
    have hss : ss.length ≤ 62 := hsl
    refine Y2 ?_
    refine Zh8 rfl (by kernel_rfl) (high_x (L := own 3 1 (.slice a5 ss.length c5) ss.length (ss.map nv) :: E) (rd_own .here) (by omega) hsd) rfl qT ?_
    rintro _ _ ⟨ah3, ch3, h3, h3d, h3v, h3l, rfl, rfl⟩
    refine V3 ?_
    refine Zgl (own 3 1 (.slice ah3 h3.length ch3) h3.length (h3.map nv) :: own 3 1 (.slice a5 ss.length c5) ss.length (ss.map nv) :: E, (a5, c5, ss), (ah3, ch3, h3)) ?_ ⟨Imp.tail.trans (Imp.tail.trans hE), rd_own (.there .here), hsd, hss, ?_, rd_own .here, h3d, h3v, h3l⟩ qI ⟨rfl, rfl, trivial⟩
    · dsimp only
      rw [hsv, (lowD_val d hd).1, hmv, hhv]
      simp only [valD]
      omega
    · dsimp only
      rw [hsv, (lowD_val d hd).1, hmv, hhv, ← hdv]
      simp only [valD]
      omega
  · have hA : valD hi = 0 := Classical.not_not.1 hA
    have hv0 : valD d < 1361129467683753853853498429727072845824 := by rw [hhv] at hA; omega
    have hlo := lowD_val d hd
    refine Y2 ?_
    refine Zh7 (cs := #[.int .i64 _]) (by omega) (by omega) rfl ?_; intro b19
    refine Zh8 rfl (by kernel_rfl) (add_x (L := cl b19 #[.int .i64 5] 3 :: E) (n := 62) (la := d) (lb := [5]) (hrd.imp Imp.tail) (rd_five .here) hd dig_five (by omega) (by simp) (by omega) (by
          have : valD d < 256 ^ 61 := Nat.lt_of_lt_of_le hv0 (by decide)
          rw [show (256 : Nat) ^ 62 = 256 ^ 61 * 256 from Nat.pow_succ ..]; simp only [valD]; omega)) rfl qT ?_
    rintro _ _ ⟨a5, c5, mo, hmd, hmv, hml, rfl, rfl⟩
    refine V3 ?_
    have hf := fold_fin (valD d) (valD mo) hv0 (by rw [hmv]; simp [valD])
    refine Y2 ?_
    refine Zh8 rfl (by kernel_rfl) (high_x (L := own 3 1 (.slice a5 mo.length c5) mo.length (mo.map nv) :: E) (rd_own .here) (by omega) hmd) rfl qT ?_
    rintro _ _ ⟨ah3, ch3, h3, h3d, h3v, h3l, rfl, rfl⟩
    refine Y1 ?_
    refine Zh8 rfl (by kernel_rfl) (noughtD_x (L := own 3 1 (.slice ah3 h3.length ch3) h3.length (h3.map nv) :: E) (rd_own .here) (by omega)) rfl qT ?_
    rintro _ _ ⟨rfl, rfl⟩
    refine V3 ?_
    refine Zgg (p := ¬ valD h3 = 0) (by show Value.bool _ = _; simp) (fun hB => ?_) (fun hB => ?_)
    · refine Y2 ?_
      refine Zh8 rfl (by kernel_rfl) (low_x (L := own 3 1 (.slice a5 mo.length c5) mo.length (mo.map nv) :: E) (rd_own .here) (by omega)) rfl qT ?_
      rintro _ _ ⟨al, ccl, lo, rfl, rfl, rfl⟩
      refine V3 ?_
      have hlm := lowD_val mo hmd
      refine rx1 (Zhc rfl (Zg7)) ?_
      exact ⟨_, ⟨al, ccl, _, hlm.2.1, by rw [hlm.1, hf.2 (by rw [← h3v]; exact hB), hdv], hlm.2.2, rfl, rfl⟩, (Imp.arr (N := own 3 1 (.slice al (lowD mo mo.length).length ccl) (lowD mo mo.length).length ((lowD mo mo.length).map nv) :: E) qV).trans hE.cons⟩
    · have hB : valD h3 = 0 := Classical.not_not.1 hB
      refine Y2 ?_
      refine Zh8 rfl (by kernel_rfl) (low_x (L := E) hrd (by omega)) rfl qT ?_
      rintro _ _ ⟨al, ccl, lo, rfl, rfl, rfl⟩
      refine V3 ?_
      refine rx1 (Zhc rfl (Zg7)) ?_
      exact ⟨_, ⟨al, ccl, _, hlo.2.1, by rw [hlo.1, hf.1 (by rw [← h3v]; exact hB), hdv], hlo.2.2, rfl, rfl⟩, (Imp.arr (N := own 3 1 (.slice al (lowD d d.length).length ccl) (lowD d d.length).length ((lowD d d.length).map nv) :: E) qV).trans hE.cons⟩
end Go.Sl
