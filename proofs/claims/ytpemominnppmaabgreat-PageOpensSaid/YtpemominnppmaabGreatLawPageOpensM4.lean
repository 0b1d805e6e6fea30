/- Parts of the proof, joined: RfeE, RfeF, RfeG, PgF, PgG, OpenSheet, PgK, EngI, RefQ, RefR, PgH. -/
import Derived.Test.YtpemominnppmaabGreatLawPageOpensM0
import Derived.Test.YtpemominnppmaabGreatLawPageOpensM1
import Derived.Test.YtpemominnppmaabGreatLawPageOpensM2
import Derived.Test.YtpemominnppmaabGreatLawPageOpensM3
/- the document's seal (trystref07): filled, tag, Box, TooLong, Seal, Text, Wrong, walked. -/
set_option maxHeartbeats 4000000
set_option maxRecDepth 10000
set_option linter.unusedVariables false
set_option linter.unusedSimpArgs false
namespace Go.Sl
open Go Go.Proofs
attribute [local irreducible] cl pt own old pur ex all den denOps denS xOps xC cX CX xthen xblk xcut xloop xgo xng retX resX Calls PV Rd Con
attribute [local irreducible] code blockB ksB xorB vouchB leB
theorem join_is {L : List Asrt} {v : Value} {ps : List (Value × List Byte)} {m : List Byte} (h : Rs L v ps) (e : joinB ps = m) (hl : m.length ≤ 140737488355328) : Con Tryz.prog 37 [v] L (fun r M => ∃ a c, r = .slice a m.length c ∧ M = own 5 1 r m.length (m.map u8b) :: L) := by subst e; exact join_x h hl
def padN (b : List Byte) (k : Nat) : List Byte := b ++ List.replicate k 0#8
theorem padN_len (b : List Byte) (k : Nat) : (padN b k).length = b.length + k := by simp [padN]
theorem padN_succ (b : List Byte) (k : Nat) : padN b (k + 1) = padN b k ++ [0#8] := by unfold padN; rw [List.replicate_succ', List.append_assoc]
theorem padN_end (b : List Byte) : padN b ((16 - b.length % 16) % 16) = b ++ padB b := rfl
theorem pad_len (b : List Byte) : (b ++ padB b).length ≤ b.length + 15 := by simp [padB]; omega
theorem filled_x {L : List Asrt} {v : Value} {b : List Byte} (h : Bs L v b) (hb : b.length ≤ 140737488351232) : Con Tryz.prog 66 [v] L (fun r M => ∃ a c, r = .slice a (b ++ padB b).length c ∧ M = own 5 1 r (b ++ padB b).length ((b ++ padB b).map u8b) :: L) := by
  refine Con.get (fun w0 w F H => h.sh _ _ _ H) ?_
  rintro ⟨va, vc, rfl, hvc, hvcm⟩
  rw [← padN_end]
  have hp0 : padN b 0 = b := by simp [padN]
  refine fn_x Tryz.func66 rfl rfl rfl Tryz.mixed (by kernel_rfl) ?_
  intro w0
  refine Ct.o ?_
  refine Zgb ?_
  first|refine Zhg (Za2 rfl) ?_|refine Zhg (Zas rfl) ?_
  refine Zg3 ?_
  refine Ct.o ?_
  refine Zgb ?_
  first|refine Zhg (Zaw rfl) ?_|refine Zhg (Zar rfl) ?_
  refine Zh8 rfl (by kernel_rfl) (copyBytes_x (L := L) h (by omega)) rfl qT ?_
  rintro _ _ ⟨xa, xc, rfl, rfl⟩
  refine Zg2 qA ?_
  first|refine Zhg (Za2 rfl) ?_|refine Zhg (Zas rfl) ?_
  refine Zg3 ?_
  refine Ct.o ?_
  refine Zgo [(3, 3), (6, 12)] (by kernel_rfl) (fun s : Nat × Option Addr × Nat => s.1 ≤ (16 - b.length % 16) % 16) (fun s => own 5 1 (.slice s.2.1 (padN b s.1).length s.2.2) (padN b s.1).length ((padN b s.1).map u8b) :: L)
    (fun s => [(3, .slice s.2.1 (padN b s.1).length s.2.2)]) (fun s => (16 - b.length % 16) % 16 - s.1) (0, xa, xc) (Nat.zero_le _) (by show Imp _ (own _ 1 (.slice xa (padN b 0).length xc) (padN b 0).length ((padN b 0).map u8b) :: L); rw [hp0]; exact qI) ⟨by show Value.slice xa b.length xc = .slice xa (padN b 0).length xc; rw [hp0], trivial⟩ ?_
  rintro ⟨k, a, c⟩ u hk
  dsimp only at hk ⊢
  have hpl := padN_len b k
  refine Ct.o ?_
  refine Zgb ?_
  first|refine Zhg (Zaw rfl) ?_|refine Zhg (Zar rfl) ?_
  first|refine Zhg (Zcr rfl) ?_|refine Zhg (Zct) ?_|refine Zhg (Zcu rfl) ?_
  refine Zhg (Zme (b := 16) rfl rfl (by omega)) ?_
  first|refine Zhg (Zmk (b := 0) rfl rfl) ?_|refine Zhg (Zbs rfl rfl) ?_
  refine Zg3 ?_
  refine Ct.o ?_
  refine Zgg rfl (fun hB => ?_) (fun hB => ?_)
  · refine Ct.o ?_
    refine Zgb ?_
    first|refine Zhg (Zaw rfl) ?_|refine Zhg (Zar rfl) ?_
    refine Zh7 (cs := #[u8b 0#8]) (by omega) (by omega) (by kernel_rfl) ?_; intro b11
    refine Zia rfl rfl qH (Rd.cl (xs := [u8b 0#8]) qH rfl qZ rfl) qN (by omega) qS ?_; intro a3 c3
    first|refine Zhg (Za2 rfl) ?_|refine Zhg (Zas rfl) ?_
    refine Zg3 ?_
    refine Ct.o ?_
    have e2 : (padN b k).map u8b ++ [u8b 0#8] = (padN b (k + 1)).map u8b := by rw [padN_succ]; simp only [List.map_append, List.map_cons, List.map_nil]
    have e3 : (padN b k).length + 1 = (padN b (k + 1)).length := by rw [padN_len, padN_len]; rfl
    rw [e2, e3]
    exact Zgl (k + 1, a3, c3) qO qO qI ⟨rfl, trivial⟩
  · have hie : k = (16 - b.length % 16) % 16 := by omega
    rw [hie]
    refine Ct.o ?_
    refine Zgb ?_
    first|refine Zhg (Zaw rfl) ?_|refine Zhg (Zar rfl) ?_
    first|refine Zhg (Za2 rfl) ?_|refine Zhg (Zas rfl) ?_
    refine Zg3 ?_
    refine Ct.o ?_
    refine rx1 (Zhc rfl (Zg7)) ?_
    exact ⟨_, ⟨a, c, rfl, rfl⟩, qI⟩
theorem tagR_x {L : List Asrt} (key nonce : List Byte) (hk : key.length = 32) (hn : nonce.length = 12) {vm vc : Value} {more cover : List Byte} (hm : Bs L vm more) (hc : Bs L vc cover) (hml : more.length ≤ 17592186044416) (hcl : cover.length ≤ 17592186044416) :
    Con Tryz.prog 50 [.agg (key.map u8b).toArray, .agg (nonce.map u8b).toArray, vm, vc] L (fun r M => ∃ a c, r = .slice a 16 c ∧ M = own 5 1 r 16 ((vouchB key nonce more cover).map u8b) :: L) := by
  refine Con.get (fun w0 w F H => hm.sh _ _ _ H) ?_
  rintro ⟨ma, mc, rfl, hmc, hmcm⟩
  refine Con.get (fun w0 w F H => hc.sh _ _ _ H) ?_
  rintro ⟨ca, cc, rfl, hcc, hccm⟩
  have hbl := blockB_len key 0#32 nonce
  have hvl := vouchB_len key nonce more cover
  have hV : vouchB key nonce more cover = code ((blockB key 0#32 nonce).take 32) (macB more cover) := by unfold vouchB oneKey; rfl
  refine fn_x Tryz.func50 rfl rfl rfl Tryz.mixed (by kernel_rfl) ?_
  intro w0
  refine Ct.o ?_
  refine Zgb ?_
  refine Zh5 rfl ?_; intro b4
  refine Zh5 rfl ?_; intro b5
  first|refine Zhg (Za2 rfl) ?_|refine Zhg (Zas rfl) ?_
  refine Zg3 ?_
  refine Ct.o ?_
  refine Zgb ?_
  first|refine Zhr rfl qH qZ ?_|refine Zhq rfl qH qZ rfl ?_
  first|refine Zhr rfl qH qZ ?_|refine Zhq rfl qH qZ rfl ?_
  refine Zh8 rfl (by kernel_rfl) (blockR_x key 0#32 nonce hk hn) rfl qT ?_
  rintro _ _ ⟨rfl, rfl⟩
  refine Zg2 qA ?_
  refine Zhz (cs := ((List.replicate 64 0#8).map u8b).toArray) rfl ?_; intro b9
  first|refine Zhy rfl rfl qR qZ qN qZ ?_|refine Zhx rfl rfl qR qZ qN qZ rfl ?_
  refine Zg3 ?_
  refine Ct.o ?_
  generalize blockB key 0#32 nonce = B at hbl hV
  refine Ct.o ?_
  refine Zgb ?_
  refine Zhz (cs := ((List.replicate 32 0#8).map u8b).toArray) rfl ?_; intro b10
  refine Zg3 ?_
  refine Ct.o ?_
  refine Zgb ?_
  first|refine Zhg (Zaz rfl) ?_|refine Zhg (Zas rfl) ?_
  refine Zg3 ?_
  refine Ct.o ?_
  refine Zgo [(11, 11), (19, 27)] (by kernel_rfl) (fun i : Nat => i ≤ 32) (fun i => cl b10 ((cpK B 32 i).map u8b).toArray 23 :: cl b9 (B.map u8b).toArray 83 :: L)
    (fun i => [(11, nvv i)]) (fun i => 32 - i) 0 (by omega) (by show Imp _ (cl b10 ((List.replicate 32 0#8).map u8b).toArray _ :: _); exact qI) ⟨rfl, trivial⟩ ?_
  intro i u hi
  have hkl := cpK_len B 32 i hi (by omega)
  refine Ct.o ?_
  refine Zgb ?_
  first|refine Zhg (Zat rfl) ?_|refine Zhg (Zar rfl) ?_
  first|refine Zhg (Zmf (b := 32) rfl rfl) ?_|refine Zhg (Zbn rfl rfl) ?_
  refine Zg3 ?_
  refine Ct.o ?_
  refine Zgg rfl (fun hB => ?_) (fun hB => ?_)
  · have hiN : i < B.length := by omega
    refine Ct.o ?_
    refine Zgb ?_
    first|refine Zhg (Zat rfl) ?_|refine Zhg (Zar rfl) ?_
    first|refine Zhg (Zat rfl) ?_|refine Zhg (Zar rfl) ?_
    first|refine Zhg (Zl5 rfl rfl) ?_|refine Zhg (Zl3 rfl rfl) ?_
    refine Zhp rfl qH (getL hiN) ?_
    first|refine Zhg (Zl5 rfl rfl) ?_|refine Zhg (Zl3 rfl rfl) ?_
    refine Zht rfl rfl qR qZ (setL (f := u8b)) ?_
    refine Zg3 ?_
    refine Ct.o ?_
    rw [cpK_set B 32 i hB hiN]
    refine Ct.o ?_
    refine Zgb ?_
    first|refine Zhg (Zat rfl) ?_|refine Zhg (Zar rfl) ?_
    first|refine Zhg (Zma (b := 1) rfl rfl) ?_|refine Zhg (Zbg rfl rfl) ?_
    first|refine Zhg (Zaz rfl) ?_|refine Zhg (Zas rfl) ?_
    refine Zg3 ?_
    refine Ct.o ?_
    exact Zgl (i + 1) qO (by omega) qI ⟨rfl, trivial⟩
  · have hie : i = 32 := by omega
    subst hie
    rw [cpK_end B 32 (by omega)]
    have hKl : (B.take 32).length = 32 := by rw [List.length_take]; omega
    generalize B.take 32 = K at hKl hV
    refine Ct.o ?_
    refine Zgb ?_
    first|refine Zhg (Zaw rfl) ?_|refine Zhg (Zar rfl) ?_
    first|refine Zhg (Zcr rfl) ?_|refine Zhg (Zct) ?_|refine Zhg (Zcu rfl) ?_
    refine Zhg (Zlv rfl) ?_
    refine Zh8 rfl (by kernel_rfl) (little_x (L := []) _ 8 (by omega)) rfl qT ?_
    rintro _ _ ⟨xa, xc, rfl, rfl⟩
    refine Zg2 qA ?_
    first|refine Zhg (Zaw rfl) ?_|refine Zhg (Zar rfl) ?_
    first|refine Zhg (Zcr rfl) ?_|refine Zhg (Zct) ?_|refine Zhg (Zcu rfl) ?_
    refine Zhg (Zlv rfl) ?_
    refine Zh8 rfl (by kernel_rfl) (little_x (L := []) _ 8 (by omega)) rfl qT ?_
    rintro _ _ ⟨ya, yc, rfl, rfl⟩
    refine Zg2 qA ?_
    refine Zh8 rfl (by kernel_rfl) (two_x (L := [own 5 1 (.slice ya (leB (BitVec.ofInt 64 ((cover.length : Nat) : Int)) 8).length yc) (leB (BitVec.ofInt 64 ((cover.length : Nat) : Int)) 8).length ((leB (BitVec.ofInt 64 ((cover.length : Nat) : Int)) 8).map u8b), own 5 1 (.slice xa (leB (BitVec.ofInt 64 ((more.length : Nat) : Int)) 8).length xc) (leB (BitVec.ofInt 64 ((more.length : Nat) : Int)) 8).length ((leB (BitVec.ofInt 64 ((more.length : Nat) : Int)) 8).map u8b)]) (Bs.own (.there .here)) (Bs.own .here) (by simp [leB_len])) rfl qT ?_
    rintro _ _ ⟨ta, tc, rfl, rfl⟩
    refine Zg2 qA ?_
    first|refine Zhg (Za2 rfl) ?_|refine Zhg (Zas rfl) ?_
    refine Zg3 ?_
    refine Ct.o ?_
    rw [len_conv, len_conv]
    have hTl : (leB (BitVec.ofNat 64 more.length) 8 ++ leB (BitVec.ofNat 64 cover.length) 8).length = 16 := by simp [leB_len]
    have hpm := pad_len more
    have hpc := pad_len cover
    have hmac : joinB [(.slice none 0 0, more ++ padB more), (.slice none 0 0, cover ++ padB cover), (.slice none 0 0, leB (BitVec.ofNat 64 more.length) 8 ++ leB (BitVec.ofNat 64 cover.length) 8)] = macB more cover := by simp [joinB, macB]
    have hj : ∀ v1 v2 v3, joinB [(v1, more ++ padB more), (v2, cover ++ padB cover), (v3, leB (BitVec.ofNat 64 more.length) 8 ++ leB (BitVec.ofNat 64 cover.length) 8)] = macB more cover := fun v1 v2 v3 => by rw [← hmac]; rfl
    have hmacl : (macB more cover).length ≤ 140737488351232 := by
      rw [← hmac]; simp only [joinB, List.map_cons, List.map_nil, List.flatten_cons, List.flatten_nil, List.append_nil, List.length_append] at hpm hpc hTl ⊢; omega
    generalize leB (BitVec.ofNat 64 more.length) 8 ++ leB (BitVec.ofNat 64 cover.length) 8 = T at hTl hj
    have hfm := filled_x (L := L) hm (by omega)
    have hfc := filled_x (L := L) hc (by omega)
    generalize more ++ padB more = A at hpm hj hfm
    generalize cover ++ padB cover = C at hpc hj hfc
    have hrs : ∀ {L : List Asrt} {v : Value}, Bs L v (macB more cover) → Con Tryz.prog 65 [.agg (K.map u8b).toArray, v] L (fun r M => r = .agg ((vouchB key nonce more cover).map u8b).toArray ∧ L = M) := fun h => by
      have := rsum_x K hKl h (by omega)
      rwa [← hV] at this
    refine Ct.o ?_
    refine Zij ([cl b10 (K.map u8b).toArray 23]) [2, 4, 6, 7, 8, 9] (.q 1 (.q 3 (.q 5 (.r 0 (.e 2 true (.e 4 true (.e 6 true (.e 7 true (.e 8 true (.a 9 (.e 10 false .nil))))))))))) (by kernel_rfl) (by kernel_rfl) (Imp.arr qV) ?_
    first|refine Zim rfl (Zaw rfl) ?_|refine Zim rfl (Zar rfl) ?_
    first|refine Zim rfl (Zaw rfl) ?_|refine Zim rfl (Zar rfl) ?_
    first|refine Zim rfl (Zaw rfl) ?_|refine Zim rfl (Zar rfl) ?_
    first|refine Ziy rfl rfl qH qZ ?_|refine Zix rfl rfl qH qZ rfl ?_
    refine Ziq rfl ?_
    refine Zh8 rfl (by kernel_rfl) (hfm) rfl qT ?_
    rintro _ _ ⟨fa, fc, rfl, rfl⟩
    refine Zg2 qA ?_
    refine Zg3 ⟨fun _ => Imp.arr qV, ?_⟩
    refine Ziq rfl ?_
    refine Zh8 rfl (by kernel_rfl) (hfc) rfl qT ?_
    rintro _ _ ⟨ga, gc, rfl, rfl⟩
    refine Zg2 qA ?_
    refine Zg3 ⟨fun _ => Imp.arr qV, ?_⟩
    refine Ziq rfl ?_
    refine Zh7 (cs := #[.slice _ _ _, .slice _ _ _, .slice _ _ _]) (by omega) (by omega) rfl ?_; intro b43
    refine Zg3 ⟨fun _ => Imp.arr qV, ?_⟩
    refine Ziq rfl ?_
    refine Zh8 rfl (by kernel_rfl) (join_is (L := [cl b43 #[.slice fa A.length fc, .slice ga C.length gc, .slice ta T.length tc] 28, own 5 1 (.slice ga C.length gc) C.length (C.map u8b), own 5 1 (.slice fa A.length fc) A.length (A.map u8b), own 5 1 (.slice ta T.length tc) T.length (T.map u8b)]) (ps := [(.slice fa A.length fc, A), (.slice ga C.length gc, C), (.slice ta T.length tc, T)]) (Rs.cl (o := 0) .here (by simp) rfl (by simp) (by simp) (by intro x hx; simp only [List.mem_cons, List.not_mem_nil, or_false] at hx; rcases hx with rfl|rfl|rfl; exact Bs.own (.there (.there .here)); exact Bs.own (.there .here); exact Bs.own (.there (.there (.there .here))))) (hj _ _ _) (by omega)) rfl qT ?_
    rintro _ _ ⟨ja, jc, rfl, rfl⟩
    refine Zg2 qA ?_
    refine Zg3 ⟨fun _ => Imp.arr qV, ?_⟩
    refine Ziq rfl ?_
    refine Zh8 rfl (by kernel_rfl) (hrs (L := [own 5 1 (.slice ja (macB more cover).length jc) (macB more cover).length ((macB more cover).map u8b)]) (Bs.own .here)) rfl qT ?_
    rintro _ _ ⟨rfl, rfl⟩
    refine Zg2 qA ?_
    refine Zg3 ⟨fun _ => Imp.arr qV, ?_⟩
    refine Zir rfl (cs := ((List.replicate 16 0#8).map u8b).toArray) rfl ?_; intro b13
    refine Ziq rfl ?_
    first|refine Zhy rfl rfl qR qZ qN qZ ?_|refine Zhx rfl rfl qR qZ qN qZ rfl ?_
    refine Zg3 ⟨(fun hh => Bool.noConfusion hh), ?_⟩
    refine Zik ?_
    refine Ct.o ?_
    generalize vouchB key nonce more cover = V at hvl
    refine Ct.o ?_
    refine Zgb ?_
    first|refine Zhg (Za2 rfl) ?_|refine Zhg (Zas rfl) ?_
    refine Zg3 ?_
    refine Ct.o ?_
    refine Zgb ?_
    first|refine Zhg (Zaz rfl) ?_|refine Zhg (Zas rfl) ?_
    refine Zg3 ?_
    refine Ct.o ?_
    refine Zgo [(14, 15), (46, 55)] (by kernel_rfl) (fun s : Nat × Option Addr × Nat => s.1 ≤ 16) (fun s => own 5 1 (.slice s.2.1 s.1 s.2.2) s.1 ((V.take s.1).map u8b) :: cl b13 (V.map u8b).toArray 65 :: L)
      (fun s => [(15, nvv s.1), (14, .slice s.2.1 s.1 s.2.2)]) (fun s => 16 - s.1) (0, none, 0) (by show 0 ≤ _; omega) (Imp.trans (Imp.arr (N := cl b13 (V.map u8b).toArray 65 :: L) qV) Imp.own_nil) ⟨rfl, rfl, trivial⟩ ?_
    rintro ⟨i, a, c⟩ u2 hi
    dsimp only at hi ⊢
    refine Ct.o ?_
    refine Zgb ?_
    first|refine Zhg (Zat rfl) ?_|refine Zhg (Zar rfl) ?_
    first|refine Zhg (Zmf (b := 16) rfl rfl) ?_|refine Zhg (Zbn rfl rfl) ?_
    refine Zg3 ?_
    refine Ct.o ?_
    refine Zgg rfl (fun hB => ?_) (fun hB => ?_)
    · have hiN : i < V.length := by omega
      refine Ct.o ?_
      refine Zgb ?_
      first|refine Zhg (Zaw rfl) ?_|refine Zhg (Zar rfl) ?_
      first|refine Zhg (Zat rfl) ?_|refine Zhg (Zar rfl) ?_
      first|refine Zhg (Zl5 rfl rfl) ?_|refine Zhg (Zl3 rfl rfl) ?_
      refine Zhp rfl qH (getL hiN) ?_
      refine Zh7 (cs := #[.int .u8 _]) (by omega) (by omega) rfl ?_; intro b54
      refine Zia rfl rfl qH (Rd.cl (xs := [u8b V[i]]) qH rfl qZ rfl) qN (by omega) qS ?_; intro a3 c3
      first|refine Zhg (Za2 rfl) ?_|refine Zhg (Zas rfl) ?_
      refine Zg3 ?_
      refine Ct.o ?_
      have e2 : (V.take i).map u8b ++ [u8b V[i]] = (V.take (i + 1)).map u8b := by rw [List.take_succ_eq_append_getElem hiN]; simp only [List.map_append, List.map_cons, List.map_nil]
      rw [e2]
      refine Ct.o ?_
      refine Zgb ?_
      first|refine Zhg (Zat rfl) ?_|refine Zhg (Zar rfl) ?_
      first|refine Zhg (Zma (b := 1) rfl rfl) ?_|refine Zhg (Zbg rfl rfl) ?_
      first|refine Zhg (Zaz rfl) ?_|refine Zhg (Zas rfl) ?_
      refine Zg3 ?_
      refine Ct.o ?_
      exact Zgl (i + 1, a3, c3) qO qO qI ⟨rfl, rfl, trivial⟩
    · have hie : i = 16 := by omega
      subst hie
      rw [List.take_of_length_le (by omega)]
      refine Ct.o ?_
      refine Zgb ?_
      first|refine Zhg (Zaw rfl) ?_|refine Zhg (Zar rfl) ?_
      first|refine Zhg (Za2 rfl) ?_|refine Zhg (Zas rfl) ?_
      refine Zg3 ?_
      refine Ct.o ?_
      refine rx1 (Zhc rfl (Zg7)) ?_
      exact ⟨_, ⟨a, c, rfl, rfl⟩, qI⟩
end Go.Sl

/- the document's seal (trystref07): Box, TooLong, Seal, Text, Wrong, walked. -/
set_option maxHeartbeats 4000000
set_option maxRecDepth 10000
set_option linter.unusedVariables false
set_option linter.unusedSimpArgs false
namespace Go.Sl
open Go Go.Proofs
attribute [local irreducible] cl pt own old pur ex all den denOps denS xOps xC cX CX xthen xblk xcut xloop xgo xng retX resX Calls PV Rd Con
attribute [local irreducible] code blockB ksB xorB vouchB leB sealB
theorem boxR_x {L : List Asrt} (key nonce : List Byte) (hk : key.length = 32) (hn : nonce.length = 12) {vm vt : Value} {more text : List Byte} (hm : Bs L vm more) (ht : Bs L vt text) (hml : more.length ≤ 1048576) (htl : text.length ≤ 1048576) :
    Con Tryz.prog 36 [.agg (key.map u8b).toArray, .agg (nonce.map u8b).toArray, vm, vt] L (fun r M => ∃ a c, r = .slice a (sealB key nonce more text).length c ∧ M = own 5 1 (.slice a (sealB key nonce more text).length c) (sealB key nonce more text).length ((sealB key nonce more text).map u8b) :: L) := by
  refine Con.get (fun w0 w F H => hm.sh _ _ _ H) ?_
  rintro ⟨ma, mc, rfl, hmc, hmcm⟩
  refine Con.get (fun w0 w F H => ht.sh _ _ _ H) ?_
  rintro ⟨ta, tc, rfl, htc, htcm⟩
  have hxl := xorB_len key nonce 64 text
  have hvl := vouchB_len key nonce more (xorB key nonce 64 text)
  have hs : sealB key nonce more text = xorB key nonce 64 text ++ vouchB key nonce more (xorB key nonce 64 text) := by unfold sealB; rfl
  have hx := xorR_x (L := L) key nonce hk hn ht (by omega)
  rw [hs]
  generalize xorB key nonce 64 text = X at hxl hvl hx
  have htg := fun (a : Option Addr) (c : Nat) => tagR_x (L := own 5 1 (.slice a text.length c) text.length (X.map u8b) :: L) key nonce hk hn (hm.imp Imp.tail) (bs_own .here hxl) (by omega) (by omega)
  generalize vouchB key nonce more X = V at hvl htg
  have hXV : (X ++ V).length ≤ 140737488355328 := by rw [List.length_append]; omega
  refine fn_x Tryz.func36 rfl rfl rfl Tryz.mixed (by kernel_rfl) ?_
  intro w0
  refine Ct.o ?_
  refine Zgb ?_
  refine Zh5 rfl ?_; intro b4
  refine Zh5 rfl ?_; intro b5
  first|refine Zhg (Za2 rfl) ?_|refine Zhg (Zas rfl) ?_
  refine Zg3 ?_
  refine Ct.o ?_
  refine Zgb ?_
  first|refine Zhr rfl qH qZ ?_|refine Zhq rfl qH qZ rfl ?_
  first|refine Zhr rfl qH qZ ?_|refine Zhq rfl qH qZ rfl ?_
  first|refine Zhg (Zaw rfl) ?_|refine Zhg (Zar rfl) ?_
  refine Zh8 rfl (by kernel_rfl) (hx) rfl qT ?_
  rintro _ _ ⟨xa, xc, rfl, rfl⟩
  refine Zg2 qA ?_
  first|refine Zhg (Za2 rfl) ?_|refine Zhg (Zas rfl) ?_
  refine Zg3 ?_
  refine Ct.o ?_
  refine Zgb ?_
  first|refine Zhg (Zaw rfl) ?_|refine Zhg (Zar rfl) ?_
  first|refine Zhr rfl qH qZ ?_|refine Zhq rfl qH qZ rfl ?_
  first|refine Zhr rfl qH qZ ?_|refine Zhq rfl qH qZ rfl ?_
  first|refine Zhg (Zaw rfl) ?_|refine Zhg (Zar rfl) ?_
  first|refine Zhg (Zaw rfl) ?_|refine Zhg (Zar rfl) ?_
  refine Zh8 rfl (by kernel_rfl) (htg xa xc) rfl qT ?_
  rintro _ _ ⟨ga, gc, rfl, rfl⟩
  refine Zg2 qA ?_
  refine Zh8 rfl (by kernel_rfl) (two_x (L := own 5 1 (.slice ga 16 gc) 16 (V.map u8b) :: own 5 1 (.slice xa text.length xc) text.length (X.map u8b) :: L) (bs_own (.there .here) hxl) (bs_own .here hvl) hXV) rfl qT ?_
  rintro _ _ ⟨ra, rc, rfl, rfl⟩
  refine Zg2 qA ?_
  first|refine Zhg (Za2 rfl) ?_|refine Zhg (Zas rfl) ?_
  refine Zg3 ?_
  refine Ct.o ?_
  refine rx1 (Zhc rfl (Zg7)) ?_
  exact ⟨_, ⟨ra, rc, rfl, rfl⟩, qI⟩
theorem tooLong_x {L : List Asrt} {ma ta : Option Addr} {m mc t tc : Nat} (hm : m ≤ 9223372036854775807) (ht : t ≤ 9223372036854775807) :
    Con Tryz.prog 35 [.slice ma m mc, .slice ta t tc] L (fun r M => r = nvv (if 1048576 < m ∨ 1048576 < t then 3 else 0) ∧ L = M) := by
  refine fn_x Tryz.func35 rfl rfl rfl Tryz.mixed (by kernel_rfl) ?_
  intro w0
  refine Ct.o ?_
  refine Zgb ?_
  first|refine Zhg (Zaz rfl) ?_|refine Zhg (Zas rfl) ?_
  refine Zg3 ?_
  refine Ct.o ?_
  by_cases h1 : 1048576 < m
  · rw [if_pos (.inl h1)]
    refine Ct.o ?_
    refine Zgb ?_
    first|refine Zhg (Zaw rfl) ?_|refine Zhg (Zar rfl) ?_
    first|refine Zhg (Zcr rfl) ?_|refine Zhg (Zct) ?_|refine Zhg (Zcu rfl) ?_
    first|refine Zhg (Zmh (b := 1048576) rfl rfl) ?_|refine Zhg (Zbp rfl rfl) ?_
    refine Zhm 7 rfl (decide_eq_true (h1)) ?_
    first|refine Zhg (Zau rfl) ?_|refine Zhg (Zar rfl) ?_
    first|refine Zhi rfl ?_|refine Zhj rfl ?_|(refine Zhh rfl ?_; (first|refine Zhg (Zaw rfl) ?_|refine Zhg (Zar rfl) ?_))
    first|refine Zhi rfl ?_|refine Zhj rfl ?_|(refine Zhh rfl ?_; (first|refine Zhg (Zcr rfl) ?_|refine Zhg (Zct) ?_|refine Zhg (Zcu rfl) ?_))
    first|refine Zhi rfl ?_|refine Zhj rfl ?_|(refine Zhh rfl ?_; (first|refine Zhg (Zmh (b := 1048576) rfl rfl) ?_|refine Zhg (Zbp rfl rfl) ?_))
    first|refine Zhg (Zdz rfl rfl) ?_|refine Zhg (Zd0 rfl rfl) ?_|refine Zhg (Za8 rfl rfl) ?_|refine Zhg (Za9 rfl rfl) ?_|refine Zhg (Za6 rfl rfl) ?_|refine Zhg (Za7 rfl rfl) ?_
    refine Zg3 ?_
    refine Ct.o ?_
    refine Zge rfl ?_
    refine Ct.o ?_
    refine Zgb ?_
    first|refine Zhg (Zaz rfl) ?_|refine Zhg (Zas rfl) ?_
    refine Zg3 ?_
    refine Ct.o ?_
    refine rx1 (Zg9 rfl (Zg7)) ?_
    exact ⟨_, ⟨rfl, rfl⟩, qI⟩
  by_cases h2 : 1048576 < t
  · rw [if_pos (.inr h2)]
    refine Ct.o ?_
    refine Zgb ?_
    first|refine Zhg (Zaw rfl) ?_|refine Zhg (Zar rfl) ?_
    first|refine Zhg (Zcr rfl) ?_|refine Zhg (Zct) ?_|refine Zhg (Zcu rfl) ?_
    first|refine Zhg (Zmh (b := 1048576) rfl rfl) ?_|refine Zhg (Zbp rfl rfl) ?_
    refine Zhn 7 rfl (decide_eq_false (h1)) ?_
    first|refine Zhg (Zau rfl) ?_|refine Zhg (Zar rfl) ?_
    first|refine Zhi rfl ?_|refine Zhj rfl ?_|(refine Zhh rfl ?_; (first|refine Zhg (Zaw rfl) ?_|refine Zhg (Zar rfl) ?_))
    first|refine Zhi rfl ?_|refine Zhj rfl ?_|(refine Zhh rfl ?_; (first|refine Zhg (Zcr rfl) ?_|refine Zhg (Zct) ?_|refine Zhg (Zcu rfl) ?_))
    first|refine Zhi rfl ?_|refine Zhj rfl ?_|(refine Zhh rfl ?_; (first|refine Zhg (Zmh (b := 1048576) rfl rfl) ?_|refine Zhg (Zbp rfl rfl) ?_))
    refine Zhm 11 rfl (decide_eq_true (h2)) ?_
    first|refine Zhg (Zdz rfl rfl) ?_|refine Zhg (Zd0 rfl rfl) ?_|refine Zhg (Za8 rfl rfl) ?_|refine Zhg (Za9 rfl rfl) ?_|refine Zhg (Za6 rfl rfl) ?_|refine Zhg (Za7 rfl rfl) ?_
    refine Zg3 ?_
    refine Ct.o ?_
    refine Zge rfl ?_
    refine Ct.o ?_
    refine Zgb ?_
    first|refine Zhg (Zaz rfl) ?_|refine Zhg (Zas rfl) ?_
    refine Zg3 ?_
    refine Ct.o ?_
    refine rx1 (Zg9 rfl (Zg7)) ?_
    exact ⟨_, ⟨rfl, rfl⟩, qI⟩
  · rw [if_neg (fun h => h.elim h1 h2)]
    refine Ct.o ?_
    refine Zgb ?_
    first|refine Zhg (Zaw rfl) ?_|refine Zhg (Zar rfl) ?_
    first|refine Zhg (Zcr rfl) ?_|refine Zhg (Zct) ?_|refine Zhg (Zcu rfl) ?_
    first|refine Zhg (Zmh (b := 1048576) rfl rfl) ?_|refine Zhg (Zbp rfl rfl) ?_
    refine Zhn 7 rfl (decide_eq_false (h1)) ?_
    first|refine Zhg (Zau rfl) ?_|refine Zhg (Zar rfl) ?_
    first|refine Zhi rfl ?_|refine Zhj rfl ?_|(refine Zhh rfl ?_; (first|refine Zhg (Zaw rfl) ?_|refine Zhg (Zar rfl) ?_))
    first|refine Zhi rfl ?_|refine Zhj rfl ?_|(refine Zhh rfl ?_; (first|refine Zhg (Zcr rfl) ?_|refine Zhg (Zct) ?_|refine Zhg (Zcu rfl) ?_))
    first|refine Zhi rfl ?_|refine Zhj rfl ?_|(refine Zhh rfl ?_; (first|refine Zhg (Zmh (b := 1048576) rfl rfl) ?_|refine Zhg (Zbp rfl rfl) ?_))
    refine Zhn 11 rfl (decide_eq_false (h2)) ?_
    first|refine Zhg (Zdz rfl rfl) ?_|refine Zhg (Zd0 rfl rfl) ?_|refine Zhg (Za8 rfl rfl) ?_|refine Zhg (Za9 rfl rfl) ?_|refine Zhg (Za6 rfl rfl) ?_|refine Zhg (Za7 rfl rfl) ?_
    refine Zg3 ?_
    refine Ct.o ?_
    refine Zgf rfl ?_
    refine Ct.o ?_
    refine Zgb ?_
    first|refine Zhg (Zaz rfl) ?_|refine Zhg (Zas rfl) ?_
    refine Zg3 ?_
    refine Ct.o ?_
    refine rx1 (Zg9 rfl (Zg7)) ?_
    exact ⟨_, ⟨rfl, rfl⟩, qI⟩
theorem sealRef_x {L : List Asrt} (key nonce : List Byte) (hk : key.length = 32) (hn : nonce.length = 12) {vm vt : Value} {more text : List Byte} (hm : Bs L vm more) (ht : Bs L vt text) :
    Con Tryz.prog 18 [.agg (key.map u8b).toArray, .agg (nonce.map u8b).toArray, vm, vt] L (fun r M => ∃ a c, r = .tuple #[.slice a (sealR key nonce more text).1.length c, nvv (sealR key nonce more text).2] ∧ M = own 5 1 (.slice a (sealR key nonce more text).1.length c) (sealR key nonce more text).1.length ((sealR key nonce more text).1.map u8b) :: L) := by
  refine Con.get (fun w0 w F H => hm.sh _ _ _ H) ?_
  rintro ⟨ma, mc, rfl, hmc, hmcm⟩
  refine Con.get (fun w0 w F H => ht.sh _ _ _ H) ?_
  rintro ⟨ta, tc, rfl, htc, htcm⟩
  refine fn_x Tryz.func18 rfl rfl rfl Tryz.mixed (by kernel_rfl) ?_
  intro w0
  refine Ct.o ?_
  refine Zgb ?_
  refine Zh5 rfl ?_; intro b4
  refine Zh5 rfl ?_; intro b5
  first|refine Zhg (Za2 rfl) ?_|refine Zhg (Zas rfl) ?_
  first|refine Zhg (Zaz rfl) ?_|refine Zhg (Zas rfl) ?_
  refine Zg3 ?_
  refine Ct.o ?_
  refine Zgb ?_
  first|refine Zhg (Zaw rfl) ?_|refine Zhg (Zar rfl) ?_
  first|refine Zhg (Zaw rfl) ?_|refine Zhg (Zar rfl) ?_
  refine Zh8 rfl (by kernel_rfl) (tooLong_x (L := L) (by omega) (by omega)) rfl qT ?_
  rintro _ _ ⟨rfl, rfl⟩
  refine Zg2 qA ?_
  first|refine Zhg (Zaz rfl) ?_|refine Zhg (Zas rfl) ?_
  refine Zg3 ?_
  refine Ct.o ?_
  by_cases hlong : 1048576 < more.length ∨ 1048576 < text.length
  · have e : sealR key nonce more text = ([], 3) := if_pos hlong
    rw [if_pos hlong, e]
    refine Ct.o ?_
    refine Zgb ?_
    first|refine Zhg (Zat rfl) ?_|refine Zhg (Zar rfl) ?_
    first|refine Zhg (Zmk (b := 0) rfl rfl) ?_|refine Zhg (Zbs rfl rfl) ?_
    refine Zhm 15 rfl (rfl) ?_
    refine Zg3 ?_
    refine Ct.o ?_
    refine Zge rfl ?_
    refine Ct.o ?_
    refine Zgb ?_
    first|refine Zhg (Zat rfl) ?_|refine Zhg (Zar rfl) ?_
    first|refine Zhg (Za2 rfl) ?_|refine Zhg (Zas rfl) ?_
    first|refine Zhg (Zaz rfl) ?_|refine Zhg (Zas rfl) ?_
    refine Zg3 ?_
    refine Ct.o ?_
    refine rx2 (Zhc rfl (Zg9 rfl (Zg7))) ?_
    exact ⟨_, ⟨none, 0, rfl, rfl⟩, (Imp.arr (N := L) qV).trans Imp.own_nil⟩
  · have e : sealR key nonce more text = (sealB key nonce more text, 0) := if_neg hlong
    rw [if_neg hlong, e]
    refine Ct.o ?_
    refine Zgb ?_
    first|refine Zhg (Zat rfl) ?_|refine Zhg (Zar rfl) ?_
    first|refine Zhg (Zmk (b := 0) rfl rfl) ?_|refine Zhg (Zbs rfl rfl) ?_
    refine Zhn 15 rfl (rfl) ?_
    refine Zg3 ?_
    refine Ct.o ?_
    refine Zgf rfl ?_
    refine Ct.o ?_
    refine Zgb ?_
    first|refine Zhr rfl qH qZ ?_|refine Zhq rfl qH qZ rfl ?_
    first|refine Zhr rfl qH qZ ?_|refine Zhq rfl qH qZ rfl ?_
    first|refine Zhg (Zaw rfl) ?_|refine Zhg (Zar rfl) ?_
    first|refine Zhg (Zaw rfl) ?_|refine Zhg (Zar rfl) ?_
    refine Zh8 rfl (by kernel_rfl) (boxR_x (L := L) key nonce hk hn hm ht (by omega) (by omega)) rfl qT ?_
    rintro _ _ ⟨xa, xc, rfl, rfl⟩
    refine Zg2 qA ?_
    first|refine Zhg (Za2 rfl) ?_|refine Zhg (Zas rfl) ?_
    first|refine Zhg (Zaz rfl) ?_|refine Zhg (Zas rfl) ?_
    refine Zg3 ?_
    refine Ct.o ?_
    refine rx2 (Zhc rfl (Zg9 rfl (Zg7))) ?_
    exact ⟨_, ⟨xa, xc, rfl, rfl⟩, qI⟩
end Go.Sl

/- the document's seal (trystref07): Text, Wrong, walked. -/
set_option maxHeartbeats 4000000
set_option maxRecDepth 10000
set_option linter.unusedVariables false
set_option linter.unusedSimpArgs false
namespace Go.Sl
open Go Go.Proofs
attribute [local irreducible] cl pt own old pur ex all den denOps denS xOps xC cX CX xthen xblk xcut xloop xgo xng retX resX Calls PV Rd Con
attribute [local irreducible] code blockB ksB xorB vouchB leB sealB
def wrongR (m b : Nat) : Nat := if b < 16 then 4 else if 1048576 < m ∨ 1048592 < b then 3 else 0
theorem wrong_x {L : List Asrt} {ma ba : Option Addr} {m mc b bc : Nat} (hm : m ≤ 9223372036854775807) (hb : b ≤ 9223372036854775807) :
    Con Tryz.prog 42 [.slice ma m mc, .slice ba b bc] L (fun r M => r = nvv (wrongR m b) ∧ L = M) := by
  unfold wrongR
  refine fn_x Tryz.func42 rfl rfl rfl Tryz.mixed (by kernel_rfl) ?_
  intro w0
  refine Ct.o ?_
  refine Zgb ?_
  first|refine Zhg (Zaz rfl) ?_|refine Zhg (Zas rfl) ?_
  refine Zg3 ?_
  refine Ct.o ?_
  by_cases h0 : b < 16
  · rw [if_pos h0]
    refine Ct.o ?_
    refine Zgb ?_
    first|refine Zhg (Zaw rfl) ?_|refine Zhg (Zar rfl) ?_
    first|refine Zhg (Zcr rfl) ?_|refine Zhg (Zct) ?_|refine Zhg (Zcu rfl) ?_
    first|refine Zhg (Zmf (b := 16) rfl rfl) ?_|refine Zhg (Zbn rfl rfl) ?_
    refine Zhm 7 rfl (decide_eq_true (h0)) ?_
    refine Zg3 ?_
    refine Ct.o ?_
    refine Zge rfl ?_
    refine Ct.o ?_
    refine Zgb ?_
    first|refine Zhg (Zaz rfl) ?_|refine Zhg (Zas rfl) ?_
    refine Zg3 ?_
    refine Ct.o ?_
    refine rx1 (Zg9 rfl (Zg7)) ?_
    exact ⟨_, ⟨rfl, rfl⟩, qI⟩
  rw [if_neg h0]
  refine Ct.o ?_
  refine Zgb ?_
  first|refine Zhg (Zaw rfl) ?_|refine Zhg (Zar rfl) ?_
  first|refine Zhg (Zcr rfl) ?_|refine Zhg (Zct) ?_|refine Zhg (Zcu rfl) ?_
  first|refine Zhg (Zmf (b := 16) rfl rfl) ?_|refine Zhg (Zbn rfl rfl) ?_
  refine Zhn 7 rfl (decide_eq_false (h0)) ?_
  refine Zg3 ?_
  refine Ct.o ?_
  refine Zgf rfl ?_
  refine Ct.o ?_
  by_cases h1 : 1048576 < m
  · rw [if_pos (.inl h1)]
    refine Ct.o ?_
    refine Zgb ?_
    first|refine Zhg (Zaw rfl) ?_|refine Zhg (Zar rfl) ?_
    first|refine Zhg (Zcr rfl) ?_|refine Zhg (Zct) ?_|refine Zhg (Zcu rfl) ?_
    first|refine Zhg (Zmh (b := 1048576) rfl rfl) ?_|refine Zhg (Zbp rfl rfl) ?_
    refine Zhm 10 rfl (decide_eq_true (h1)) ?_
    first|refine Zhg (Zau rfl) ?_|refine Zhg (Zar rfl) ?_
    first|refine Zhi rfl ?_|refine Zhj rfl ?_|(refine Zhh rfl ?_; (first|refine Zhg (Zaw rfl) ?_|refine Zhg (Zar rfl) ?_))
    first|refine Zhi rfl ?_|refine Zhj rfl ?_|(refine Zhh rfl ?_; (first|refine Zhg (Zcr rfl) ?_|refine Zhg (Zct) ?_|refine Zhg (Zcu rfl) ?_))
    first|refine Zhi rfl ?_|refine Zhj rfl ?_|(refine Zhh rfl ?_; (first|refine Zhg (Zmh (b := 1048592) rfl rfl) ?_|refine Zhg (Zbp rfl rfl) ?_))
    first|refine Zhg (Zdz rfl rfl) ?_|refine Zhg (Zd0 rfl rfl) ?_|refine Zhg (Za8 rfl rfl) ?_|refine Zhg (Za9 rfl rfl) ?_|refine Zhg (Za6 rfl rfl) ?_|refine Zhg (Za7 rfl rfl) ?_
    refine Zg3 ?_
    refine Ct.o ?_
    refine Zge rfl ?_
    refine Ct.o ?_
    refine Zgb ?_
    first|refine Zhg (Zaz rfl) ?_|refine Zhg (Zas rfl) ?_
    refine Zg3 ?_
    refine Ct.o ?_
    refine rx1 (Zg9 rfl (Zg7)) ?_
    exact ⟨_, ⟨rfl, rfl⟩, qI⟩
  by_cases h2 : 1048592 < b
  · rw [if_pos (.inr h2)]
    refine Ct.o ?_
    refine Zgb ?_
    first|refine Zhg (Zaw rfl) ?_|refine Zhg (Zar rfl) ?_
    first|refine Zhg (Zcr rfl) ?_|refine Zhg (Zct) ?_|refine Zhg (Zcu rfl) ?_
    first|refine Zhg (Zmh (b := 1048576) rfl rfl) ?_|refine Zhg (Zbp rfl rfl) ?_
    refine Zhn 10 rfl (decide_eq_false (h1)) ?_
    first|refine Zhg (Zau rfl) ?_|refine Zhg (Zar rfl) ?_
    first|refine Zhi rfl ?_|refine Zhj rfl ?_|(refine Zhh rfl ?_; (first|refine Zhg (Zaw rfl) ?_|refine Zhg (Zar rfl) ?_))
    first|refine Zhi rfl ?_|refine Zhj rfl ?_|(refine Zhh rfl ?_; (first|refine Zhg (Zcr rfl) ?_|refine Zhg (Zct) ?_|refine Zhg (Zcu rfl) ?_))
    first|refine Zhi rfl ?_|refine Zhj rfl ?_|(refine Zhh rfl ?_; (first|refine Zhg (Zmh (b := 1048592) rfl rfl) ?_|refine Zhg (Zbp rfl rfl) ?_))
    refine Zhm 14 rfl (decide_eq_true (h2)) ?_
    first|refine Zhg (Zdz rfl rfl) ?_|refine Zhg (Zd0 rfl rfl) ?_|refine Zhg (Za8 rfl rfl) ?_|refine Zhg (Za9 rfl rfl) ?_|refine Zhg (Za6 rfl rfl) ?_|refine Zhg (Za7 rfl rfl) ?_
    refine Zg3 ?_
    refine Ct.o ?_
    refine Zge rfl ?_
    refine Ct.o ?_
    refine Zgb ?_
    first|refine Zhg (Zaz rfl) ?_|refine Zhg (Zas rfl) ?_
    refine Zg3 ?_
    refine Ct.o ?_
    refine rx1 (Zg9 rfl (Zg7)) ?_
    exact ⟨_, ⟨rfl, rfl⟩, qI⟩
  · rw [if_neg (fun h => h.elim h1 h2)]
    refine Ct.o ?_
    refine Zgb ?_
    first|refine Zhg (Zaw rfl) ?_|refine Zhg (Zar rfl) ?_
    first|refine Zhg (Zcr rfl) ?_|refine Zhg (Zct) ?_|refine Zhg (Zcu rfl) ?_
    first|refine Zhg (Zmh (b := 1048576) rfl rfl) ?_|refine Zhg (Zbp rfl rfl) ?_
    refine Zhn 10 rfl (decide_eq_false (h1)) ?_
    first|refine Zhg (Zau rfl) ?_|refine Zhg (Zar rfl) ?_
    first|refine Zhi rfl ?_|refine Zhj rfl ?_|(refine Zhh rfl ?_; (first|refine Zhg (Zaw rfl) ?_|refine Zhg (Zar rfl) ?_))
    first|refine Zhi rfl ?_|refine Zhj rfl ?_|(refine Zhh rfl ?_; (first|refine Zhg (Zcr rfl) ?_|refine Zhg (Zct) ?_|refine Zhg (Zcu rfl) ?_))
    first|refine Zhi rfl ?_|refine Zhj rfl ?_|(refine Zhh rfl ?_; (first|refine Zhg (Zmh (b := 1048592) rfl rfl) ?_|refine Zhg (Zbp rfl rfl) ?_))
    refine Zhn 14 rfl (decide_eq_false (h2)) ?_
    first|refine Zhg (Zdz rfl rfl) ?_|refine Zhg (Zd0 rfl rfl) ?_|refine Zhg (Za8 rfl rfl) ?_|refine Zhg (Za9 rfl rfl) ?_|refine Zhg (Za6 rfl rfl) ?_|refine Zhg (Za7 rfl rfl) ?_
    refine Zg3 ?_
    refine Ct.o ?_
    refine Zgf rfl ?_
    refine Ct.o ?_
    refine Zgb ?_
    first|refine Zhg (Zaz rfl) ?_|refine Zhg (Zas rfl) ?_
    refine Zg3 ?_
    refine Ct.o ?_
    refine rx1 (Zg9 rfl (Zg7)) ?_
    exact ⟨_, ⟨rfl, rfl⟩, qI⟩
def textR (key nonce more box : List Byte) : List Byte := if rightB key nonce more box = true then textB key nonce box else []
attribute [local irreducible] rightB textB coverB tagB
theorem textR_x {L : List Asrt} (key nonce : List Byte) (hk : key.length = 32) (hn : nonce.length = 12) {vm vb : Value} {more box : List Byte} (hm : Bs L vm more) (hb : Bs L vb box) (hml : more.length ≤ 1048576) (h16 : 16 ≤ box.length) (hbl : box.length ≤ 1048592) :
    Con Tryz.prog 43 [.agg (key.map u8b).toArray, .agg (nonce.map u8b).toArray, vm, vb] L (fun r M => ∃ a c, r = .tuple #[.slice a (textR key nonce more box).length c, .bool (rightB key nonce more box)] ∧ M = own 5 1 (.slice a (textR key nonce more box).length c) (textR key nonce more box).length ((textR key nonce more box).map u8b) :: L) := by
  refine Con.get (fun w0 w F H => hm.sh _ _ _ H) ?_
  rintro ⟨ma, mc, rfl, hmc, hmcm⟩
  refine Con.get (fun w0 w F H => hb.sh _ _ _ H) ?_
  rintro ⟨ba, bc, rfl, hbc, hbcm⟩
  refine Con.get (fun w0 w F H => hb.some (by omega) H) ?_
  rintro ⟨b1, b2, rfl⟩
  have hcl : (coverB box).length = box.length - 16 := by unfold coverB; simp
  have hcov : Bs L (.slice (some ⟨b1, b2, none⟩) (box.length - 16) bc) (coverB box) := by unfold coverB; exact Bs.take hb (by omega)
  have htag : Bs L (.slice (some ⟨b1, b2 + (box.length - 16), none⟩) (box.length - (box.length - 16)) (bc - (box.length - 16))) (tagB box) := by unfold tagB; exact bs_drop hb (by omega) (by omega)
  have hvl := vouchB_len key nonce more (coverB box)
  have hx := xorR_x (L := L) key nonce hk hn hcov (by omega)
  have htx : xorB key nonce 64 (coverB box) = textB key nonce box := by unfold textB; rfl
  rw [htx, hcl] at hx
  have hrd : rightB key nonce more box = decide (vouchB key nonce more (coverB box) = tagB box) := by unfold rightB; rfl
  refine fn_x Tryz.func43 rfl rfl rfl Tryz.mixed (by kernel_rfl) ?_
  intro w0
  refine Ct.o ?_
  refine Zgb ?_
  refine Zh5 rfl ?_; intro b4
  refine Zh5 rfl ?_; intro b5
  first|refine Zhg (Za2 rfl) ?_|refine Zhg (Zas rfl) ?_
  first|refine Zhg (Za0 rfl) ?_|refine Zhg (Zas rfl) ?_
  refine Zg3 ?_
  refine Ct.o ?_
  refine Zgb ?_
  first|refine Zhg (Zaw rfl) ?_|refine Zhg (Zar rfl) ?_
  first|refine Zhg (Zcr rfl) ?_|refine Zhg (Zct) ?_|refine Zhg (Zcu rfl) ?_
  refine Zhg (PV.eq (v' := nvv (box.length - 16)) (Zbh (b := 16) rfl rfl (by omega)) (int_eq (by omega))) ?_
  first|refine Zhg (Zaz rfl) ?_|refine Zhg (Zas rfl) ?_
  refine Zg3 ?_
  refine Ct.o ?_
  have heq := fun (a : Option Addr) (c : Nat) => eqBytes_x (L := own 5 1 (.slice a 16 c) 16 ((vouchB key nonce more (coverB box)).map u8b) :: L) (htag.imp Imp.tail) (bs_own .here hvl)
  have htl := textB_len key nonce box
  by_cases hr : vouchB key nonce more (coverB box) = tagB box
  · have e : rightB key nonce more box = true := by rw [hrd]; exact decide_eq_true hr
    have e2 : textR key nonce more box = textB key nonce box := if_pos e
    rw [e, e2]
    refine Ct.o ?_
    refine Zij (_) [7] (.q 0 (.q 1 (.q 2 (.q 3 (.q 4 (.q 5 (.q 8 (.q 9 (.q 10 (.q 11 (.r 6 (.r 7 (.e 12 false (.e 13 false (.q 14 (.q 15 .nil)))))))))))))))) (by kernel_rfl) (by kernel_rfl) (Imp.refl _) ?_
    first|refine Zim rfl (Zat rfl) ?_|refine Zim rfl (Zar rfl) ?_
    first|refine Zim rfl (Zmf (b := 0) rfl rfl) ?_|refine Zim rfl (Zbn rfl rfl) ?_
    refine Zi6 15 rfl (decide_eq_false ((by omega))) ?_
    first|refine Zim rfl (Zau rfl) ?_|refine Zim rfl (Zar rfl) ?_
    first|refine Zio rfl rfl ?_|refine Zip rfl rfl ?_|refine Zin rfl rfl (Zaw rfl) ?_|refine Zin rfl rfl (Zar rfl) ?_
    first|refine Zio rfl rfl ?_|refine Zip rfl rfl ?_|refine Zin rfl rfl (Zat rfl) ?_|refine Zin rfl rfl (Zar rfl) ?_
    first|refine Zio rfl rfl ?_|refine Zip rfl rfl ?_|refine Zin rfl rfl (Zna (l := box.length - 16) (h := box.length) rfl qB qB) ?_|refine Zin rfl rfl (Zmz (l := box.length - 16) (h := box.length) rfl qB qB) ?_
    first|refine Zio rfl rfl ?_|refine Zip rfl rfl ?_|refine Zin rfl rfl (Zaw rfl) ?_|refine Zin rfl rfl (Zar rfl) ?_
    first|refine Zio rfl rfl ?_|refine Zip rfl rfl ?_|refine Zin rfl rfl (Zaw rfl) ?_|refine Zin rfl rfl (Zar rfl) ?_
    first|refine Zio rfl rfl ?_|refine Zip rfl rfl ?_|refine Zin rfl rfl (Zat rfl) ?_|refine Zin rfl rfl (Zar rfl) ?_
    first|refine Zio rfl rfl ?_|refine Zip rfl rfl ?_|refine Zin rfl rfl (Zm0 (h := box.length - 16) rfl rfl (by omega)) ?_
    first|refine Zi1 rfl rfl ?_|refine Zi2 rfl rfl ?_|refine Zi4 rfl rfl rfl qH qZ ?_|refine Zi3 rfl rfl rfl qH qZ rfl ?_
    first|refine Zi1 rfl rfl ?_|refine Zi2 rfl rfl ?_|refine Zi4 rfl rfl rfl qH qZ ?_|refine Zi3 rfl rfl rfl qH qZ rfl ?_
    refine Ziq rfl ?_
    first|refine Zhi rfl ?_|refine Zhj rfl ?_|(refine Zhh rfl ?_; (refine Zh8 rfl (by kernel_rfl) (tagR_x (L := L) key nonce hk hn hm hcov (by omega) (by omega)) rfl qT ?_); (rintro _ _ ⟨ga, gc, rfl, rfl⟩); (refine Zg2 qA ?_))
    refine Zg3 ⟨(fun hh => Bool.noConfusion hh), ?_⟩
    refine Ziq rfl ?_
    first|refine Zhi rfl ?_|refine Zhj rfl ?_|(refine Zhh rfl ?_; (refine Zh8 rfl (by kernel_rfl) (heq ga gc) rfl qT ?_); (rintro _ _ ⟨rfl, rfl⟩); (refine Zg2 qA ?_))
    refine Zg3 ⟨(fun hh => Bool.noConfusion hh), ?_⟩
    refine Zi5 27 rfl (decide_eq_true (hr.symm)) ?_
    first|refine Zio rfl rfl ?_|refine Zip rfl rfl ?_|refine Zin rfl rfl (Zb1 rfl) ?_|refine Zin rfl rfl (Zb0 rfl) ?_
    refine Zi6 28 rfl (rfl) ?_
    first|refine Zim rfl (Zdz rfl rfl) ?_|refine Zim rfl (Zd0 rfl rfl) ?_|refine Zim rfl (Za8 rfl rfl) ?_|refine Zim rfl (Za9 rfl rfl) ?_|refine Zim rfl (Za6 rfl rfl) ?_|refine Zim rfl (Za7 rfl rfl) ?_
    refine Zik ?_
    refine Ct.o ?_
    refine Zgf rfl ?_
    refine Ct.o ?_
    refine Zij (_) [1] (.q 2 (.q 3 (.q 4 (.r 0 (.r 1 (.e 5 false (.q 6 (.q 7 .nil)))))))) (by kernel_rfl) (by kernel_rfl) (Imp.refl _) ?_
    first|refine Zim rfl (Zaw rfl) ?_|refine Zim rfl (Zar rfl) ?_
    first|refine Zim rfl (Zat rfl) ?_|refine Zim rfl (Zar rfl) ?_
    refine Zim rfl (Zm0 (h := box.length - 16) rfl rfl (by omega)) ?_
    first|refine Ziy rfl rfl qH qZ ?_|refine Zix rfl rfl qH qZ rfl ?_
    first|refine Ziy rfl rfl qH qZ ?_|refine Zix rfl rfl qH qZ rfl ?_
    refine Ziq rfl ?_
    refine Zh8 rfl (by kernel_rfl) (hx) rfl qT ?_
    rintro _ _ ⟨xa, xc, rfl, rfl⟩
    refine Zg2 qA ?_
    refine Zg3 ⟨(fun hh => Bool.noConfusion hh), ?_⟩
    first|refine Zim rfl (Za2 rfl) ?_|refine Zim rfl (Zas rfl) ?_
    first|refine Zim rfl (Za0 rfl) ?_|refine Zim rfl (Zas rfl) ?_
    refine Zik ?_
    refine Ct.o ?_
    rw [← htl]
    refine rx2 (Zhc rfl (Zha rfl (Zg7))) ?_
    exact ⟨_, ⟨xa, xc, rfl, rfl⟩, qI⟩
  · have e : rightB key nonce more box = false := by rw [hrd]; exact decide_eq_false hr
    have e2 : textR key nonce more box = [] := if_neg (by rw [e]; decide)
    rw [e, e2]
    refine Ct.o ?_
    refine Zij (_) [7] (.q 0 (.q 1 (.q 2 (.q 3 (.q 4 (.q 5 (.q 8 (.q 9 (.q 10 (.q 11 (.r 6 (.r 7 (.e 12 false (.e 13 false (.q 14 (.q 15 .nil)))))))))))))))) (by kernel_rfl) (by kernel_rfl) (Imp.refl _) ?_
    first|refine Zim rfl (Zat rfl) ?_|refine Zim rfl (Zar rfl) ?_
    first|refine Zim rfl (Zmf (b := 0) rfl rfl) ?_|refine Zim rfl (Zbn rfl rfl) ?_
    refine Zi6 15 rfl (decide_eq_false ((by omega))) ?_
    first|refine Zim rfl (Zau rfl) ?_|refine Zim rfl (Zar rfl) ?_
    first|refine Zio rfl rfl ?_|refine Zip rfl rfl ?_|refine Zin rfl rfl (Zaw rfl) ?_|refine Zin rfl rfl (Zar rfl) ?_
    first|refine Zio rfl rfl ?_|refine Zip rfl rfl ?_|refine Zin rfl rfl (Zat rfl) ?_|refine Zin rfl rfl (Zar rfl) ?_
    first|refine Zio rfl rfl ?_|refine Zip rfl rfl ?_|refine Zin rfl rfl (Zna (l := box.length - 16) (h := box.length) rfl qB qB) ?_|refine Zin rfl rfl (Zmz (l := box.length - 16) (h := box.length) rfl qB qB) ?_
    first|refine Zio rfl rfl ?_|refine Zip rfl rfl ?_|refine Zin rfl rfl (Zaw rfl) ?_|refine Zin rfl rfl (Zar rfl) ?_
    first|refine Zio rfl rfl ?_|refine Zip rfl rfl ?_|refine Zin rfl rfl (Zaw rfl) ?_|refine Zin rfl rfl (Zar rfl) ?_
    first|refine Zio rfl rfl ?_|refine Zip rfl rfl ?_|refine Zin rfl rfl (Zat rfl) ?_|refine Zin rfl rfl (Zar rfl) ?_
    first|refine Zio rfl rfl ?_|refine Zip rfl rfl ?_|refine Zin rfl rfl (Zm0 (h := box.length - 16) rfl rfl (by omega)) ?_
    first|refine Zi1 rfl rfl ?_|refine Zi2 rfl rfl ?_|refine Zi4 rfl rfl rfl qH qZ ?_|refine Zi3 rfl rfl rfl qH qZ rfl ?_
    first|refine Zi1 rfl rfl ?_|refine Zi2 rfl rfl ?_|refine Zi4 rfl rfl rfl qH qZ ?_|refine Zi3 rfl rfl rfl qH qZ rfl ?_
    refine Ziq rfl ?_
    first|refine Zhi rfl ?_|refine Zhj rfl ?_|(refine Zhh rfl ?_; (refine Zh8 rfl (by kernel_rfl) (tagR_x (L := L) key nonce hk hn hm hcov (by omega) (by omega)) rfl qT ?_); (rintro _ _ ⟨ga, gc, rfl, rfl⟩); (refine Zg2 qA ?_))
    refine Zg3 ⟨(fun hh => Bool.noConfusion hh), ?_⟩
    refine Ziq rfl ?_
    first|refine Zhi rfl ?_|refine Zhj rfl ?_|(refine Zhh rfl ?_; (refine Zh8 rfl (by kernel_rfl) (heq ga gc) rfl qT ?_); (rintro _ _ ⟨rfl, rfl⟩); (refine Zg2 qA ?_))
    refine Zg3 ⟨(fun hh => Bool.noConfusion hh), ?_⟩
    refine Zi6 27 rfl (decide_eq_false ((fun h => hr h.symm))) ?_
    first|refine Zio rfl rfl ?_|refine Zip rfl rfl ?_|refine Zin rfl rfl (Zb1 rfl) ?_|refine Zin rfl rfl (Zb0 rfl) ?_
    refine Zi5 28 rfl (rfl) ?_
    first|refine Zim rfl (Zdz rfl rfl) ?_|refine Zim rfl (Zd0 rfl rfl) ?_|refine Zim rfl (Za8 rfl rfl) ?_|refine Zim rfl (Za9 rfl rfl) ?_|refine Zim rfl (Za6 rfl rfl) ?_|refine Zim rfl (Za7 rfl rfl) ?_
    refine Zik ?_
    refine Ct.o ?_
    refine Zge rfl ?_
    refine Ct.o ?_
    refine Zgb ?_
    first|refine Zhg (Za2 rfl) ?_|refine Zhg (Zas rfl) ?_
    first|refine Zhg (Za0 rfl) ?_|refine Zhg (Zas rfl) ?_
    refine Zg3 ?_
    refine Ct.o ?_
    refine rx2 (Zhc rfl (Zha rfl (Zg7))) ?_
    exact ⟨_, ⟨none, 0, rfl, rfl⟩, (Imp.arr (N := L) qV).trans Imp.own_nil⟩
end Go.Sl

/- the document's pages (trystref12), walked; trystref07.Open. -/
set_option maxHeartbeats 4000000
set_option maxRecDepth 10000
set_option linter.unusedVariables false
set_option linter.unusedSimpArgs false
namespace Go.Sl
open Go Go.Proofs
attribute [local irreducible] cl pt own old pur ex all den denOps denS xOps xC cX CX xthen xblk xcut xloop xgo xng retX resX Calls PV Rd Con
attribute [local irreducible] code blockB ksB xorB vouchB leB sealB rightB textB coverB tagB
theorem openRef_x {L : List Asrt} (key nonce : List Byte) (hk : key.length = 32) (hn : nonce.length = 12) {vm vb : Value} {more box : List Byte} (hm : Bs L vm more) (hb : Bs L vb box) :
    Con Tryz.prog 26 [.agg (key.map u8b).toArray, .agg (nonce.map u8b).toArray, vm, vb] L (fun r M => ∃ a c, r = .tuple #[.slice a (openR key nonce more box).1.length c, nvv (openR key nonce more box).2] ∧ M = own 5 1 (.slice a (openR key nonce more box).1.length c) (openR key nonce more box).1.length ((openR key nonce more box).1.map u8b) :: L) := by
  refine Con.get (fun w0 w F H => hm.sh _ _ _ H) ?_
  rintro ⟨ma, mc, rfl, hmc, hmcm⟩
  refine Con.get (fun w0 w F H => hb.sh _ _ _ H) ?_
  rintro ⟨ba, bc, rfl, hbc, hbcm⟩
  have hw := fun (ma ba : Option Addr) (mc bc : Nat) => wrong_x (L := L) (ma := ma) (ba := ba) (mc := mc) (bc := bc) (m := more.length) (b := box.length) (by omega) (by omega)
  by_cases h16 : box.length < 16
  · have e : openR key nonce more box = ([], 4) := if_pos h16
    have ew : wrongR more.length box.length = 4 := if_pos h16
    rw [e]
    rw [ew] at hw
    refine fn_x Tryz.func26 rfl rfl rfl Tryz.mixed (by kernel_rfl) ?_
    intro w0
    refine Ct.o ?_
    refine Zgb ?_
    refine Zh5 rfl ?_; intro b4
    refine Zh5 rfl ?_; intro b5
    first|refine Zhg (Za2 rfl) ?_|refine Zhg (Zas rfl) ?_
    first|refine Zhg (Zaz rfl) ?_|refine Zhg (Zas rfl) ?_
    refine Zg3 ?_
    refine Ct.o ?_
    refine Zgb ?_
    first|refine Zhg (Zaw rfl) ?_|refine Zhg (Zar rfl) ?_
    first|refine Zhg (Zaw rfl) ?_|refine Zhg (Zar rfl) ?_
    refine Zh8 rfl (by kernel_rfl) (hw ma ba mc bc) rfl qT ?_
    rintro _ _ ⟨rfl, rfl⟩
    refine Zg2 qA ?_
    first|refine Zhg (Zaz rfl) ?_|refine Zhg (Zas rfl) ?_
    refine Zg3 ?_
    refine Ct.o ?_
    refine Zgb ?_
    first|refine Zhg (Zat rfl) ?_|refine Zhg (Zar rfl) ?_
    first|refine Zhg (Zmk (b := 0) rfl rfl) ?_|refine Zhg (Zbs rfl rfl) ?_
    refine Zhm 17 rfl (decide_eq_true (by decide)) ?_
    refine Zg3 ?_
    refine Ct.o ?_
    refine Zge rfl ?_
    refine Ct.o ?_
    refine Zgb ?_
    first|refine Zhg (Zat rfl) ?_|refine Zhg (Zar rfl) ?_
    first|refine Zhg (Za2 rfl) ?_|refine Zhg (Zas rfl) ?_
    first|refine Zhg (Zaz rfl) ?_|refine Zhg (Zas rfl) ?_
    refine Zg3 ?_
    refine Ct.o ?_
    refine rx2 (Zhc rfl (Zg9 rfl (Zg7))) ?_
    exact ⟨_, ⟨none, 0, rfl, rfl⟩, (Imp.arr (N := L) qV).trans Imp.own_nil⟩
  by_cases hlong : 1048576 < more.length ∨ 1048576 < box.length - 16
  · have e : openR key nonce more box = ([], 3) := by unfold openR; rw [if_neg h16, if_pos hlong]
    have ew : wrongR more.length box.length = 3 := by unfold wrongR; rw [if_neg h16, if_pos (by omega)]
    rw [e]
    rw [ew] at hw
    refine fn_x Tryz.func26 rfl rfl rfl Tryz.mixed (by kernel_rfl) ?_
    intro w0
    refine Ct.o ?_
    refine Zgb ?_
    refine Zh5 rfl ?_; intro b4
    refine Zh5 rfl ?_; intro b5
    first|refine Zhg (Za2 rfl) ?_|refine Zhg (Zas rfl) ?_
    first|refine Zhg (Zaz rfl) ?_|refine Zhg (Zas rfl) ?_
    refine Zg3 ?_
    refine Ct.o ?_
    refine Zgb ?_
    first|refine Zhg (Zaw rfl) ?_|refine Zhg (Zar rfl) ?_
    first|refine Zhg (Zaw rfl) ?_|refine Zhg (Zar rfl) ?_
    refine Zh8 rfl (by kernel_rfl) (hw ma ba mc bc) rfl qT ?_
    rintro _ _ ⟨rfl, rfl⟩
    refine Zg2 qA ?_
    first|refine Zhg (Zaz rfl) ?_|refine Zhg (Zas rfl) ?_
    refine Zg3 ?_
    refine Ct.o ?_
    refine Zgb ?_
    first|refine Zhg (Zat rfl) ?_|refine Zhg (Zar rfl) ?_
    first|refine Zhg (Zmk (b := 0) rfl rfl) ?_|refine Zhg (Zbs rfl rfl) ?_
    refine Zhm 17 rfl (decide_eq_true (by decide)) ?_
    refine Zg3 ?_
    refine Ct.o ?_
    refine Zge rfl ?_
    refine Ct.o ?_
    refine Zgb ?_
    first|refine Zhg (Zat rfl) ?_|refine Zhg (Zar rfl) ?_
    first|refine Zhg (Za2 rfl) ?_|refine Zhg (Zas rfl) ?_
    first|refine Zhg (Zaz rfl) ?_|refine Zhg (Zas rfl) ?_
    refine Zg3 ?_
    refine Ct.o ?_
    refine rx2 (Zhc rfl (Zg9 rfl (Zg7))) ?_
    exact ⟨_, ⟨none, 0, rfl, rfl⟩, (Imp.arr (N := L) qV).trans Imp.own_nil⟩
  have ew : wrongR more.length box.length = 0 := by unfold wrongR; rw [if_neg h16, if_neg (by omega)]
  rw [ew] at hw
  have ht := textR_x (L := L) key nonce hk hn hm hb (by omega) (by omega) (by omega)
  unfold textR at ht
  by_cases hr : rightB key nonce more box = true
  · have e : openR key nonce more box = (textB key nonce box, 0) := by unfold openR; rw [if_neg h16, if_neg hlong, if_pos hr]
    rw [e]
    rw [if_pos hr, hr] at ht
    refine fn_x Tryz.func26 rfl rfl rfl Tryz.mixed (by kernel_rfl) ?_
    intro w0
    refine Ct.o ?_
    refine Zgb ?_
    refine Zh5 rfl ?_; intro b4
    refine Zh5 rfl ?_; intro b5
    first|refine Zhg (Za2 rfl) ?_|refine Zhg (Zas rfl) ?_
    first|refine Zhg (Zaz rfl) ?_|refine Zhg (Zas rfl) ?_
    refine Zg3 ?_
    refine Ct.o ?_
    refine Zgb ?_
    first|refine Zhg (Zaw rfl) ?_|refine Zhg (Zar rfl) ?_
    first|refine Zhg (Zaw rfl) ?_|refine Zhg (Zar rfl) ?_
    refine Zh8 rfl (by kernel_rfl) (hw ma ba mc bc) rfl qT ?_
    rintro _ _ ⟨rfl, rfl⟩
    refine Zg2 qA ?_
    first|refine Zhg (Zaz rfl) ?_|refine Zhg (Zas rfl) ?_
    refine Zg3 ?_
    refine Ct.o ?_
    refine Zgb ?_
    first|refine Zhg (Zat rfl) ?_|refine Zhg (Zar rfl) ?_
    first|refine Zhg (Zmk (b := 0) rfl rfl) ?_|refine Zhg (Zbs rfl rfl) ?_
    refine Zhn 17 rfl (decide_eq_false ((fun h => h rfl))) ?_
    refine Zg3 ?_
    refine Ct.o ?_
    refine Zgf rfl ?_
    refine Ct.o ?_
    refine Zgb ?_
    first|refine Zhr rfl qH qZ ?_|refine Zhq rfl qH qZ rfl ?_
    first|refine Zhr rfl qH qZ ?_|refine Zhq rfl qH qZ rfl ?_
    first|refine Zhg (Zaw rfl) ?_|refine Zhg (Zar rfl) ?_
    first|refine Zhg (Zaw rfl) ?_|refine Zhg (Zar rfl) ?_
    refine Zh8 rfl (by kernel_rfl) (ht) rfl qT ?_
    rintro _ _ ⟨xa, xc, rfl, rfl⟩
    refine Zg2 qA ?_
    first|refine Zhg (Zmm rfl) ?_|refine Zhg (Zar rfl) ?_
    refine Zhg (Zco rfl rfl) ?_
    refine Zhg (Zco rfl rfl) ?_
    first|refine Zhg (Za2 rfl) ?_|refine Zhg (Zas rfl) ?_
    first|refine Zhg (Za0 rfl) ?_|refine Zhg (Zas rfl) ?_
    refine Zg3 ?_
    refine Ct.o ?_
    refine Zgb ?_
    first|refine Zhg (Zau rfl) ?_|refine Zhg (Zar rfl) ?_
    refine Zhg (Zb0 rfl) ?_
    refine Zhn 28 rfl (rfl) ?_
    refine Zg3 ?_
    refine Ct.o ?_
    refine Zgf rfl ?_
    refine Ct.o ?_
    refine Zgb ?_
    first|refine Zhg (Zaw rfl) ?_|refine Zhg (Zar rfl) ?_
    first|refine Zhg (Za2 rfl) ?_|refine Zhg (Zas rfl) ?_
    first|refine Zhg (Zaz rfl) ?_|refine Zhg (Zas rfl) ?_
    refine Zg3 ?_
    refine Ct.o ?_
    refine rx2 (Zhc rfl (Zg9 rfl (Zg7))) ?_
    exact ⟨_, ⟨xa, xc, rfl, rfl⟩, qI⟩
  · have e : openR key nonce more box = ([], 70) := by unfold openR; rw [if_neg h16, if_neg hlong, if_neg hr]
    have hr2 : rightB key nonce more box = false := by simpa using hr
    rw [e]
    rw [hr2] at ht
    refine fn_x Tryz.func26 rfl rfl rfl Tryz.mixed (by kernel_rfl) ?_
    intro w0
    refine Ct.o ?_
    refine Zgb ?_
    refine Zh5 rfl ?_; intro b4
    refine Zh5 rfl ?_; intro b5
    first|refine Zhg (Za2 rfl) ?_|refine Zhg (Zas rfl) ?_
    first|refine Zhg (Zaz rfl) ?_|refine Zhg (Zas rfl) ?_
    refine Zg3 ?_
    refine Ct.o ?_
    refine Zgb ?_
    first|refine Zhg (Zaw rfl) ?_|refine Zhg (Zar rfl) ?_
    first|refine Zhg (Zaw rfl) ?_|refine Zhg (Zar rfl) ?_
    refine Zh8 rfl (by kernel_rfl) (hw ma ba mc bc) rfl qT ?_
    rintro _ _ ⟨rfl, rfl⟩
    refine Zg2 qA ?_
    first|refine Zhg (Zaz rfl) ?_|refine Zhg (Zas rfl) ?_
    refine Zg3 ?_
    refine Ct.o ?_
    refine Zgb ?_
    first|refine Zhg (Zat rfl) ?_|refine Zhg (Zar rfl) ?_
    first|refine Zhg (Zmk (b := 0) rfl rfl) ?_|refine Zhg (Zbs rfl rfl) ?_
    refine Zhn 17 rfl (decide_eq_false ((fun h => h rfl))) ?_
    refine Zg3 ?_
    refine Ct.o ?_
    refine Zgf rfl ?_
    refine Ct.o ?_
    refine Zgb ?_
    first|refine Zhr rfl qH qZ ?_|refine Zhq rfl qH qZ rfl ?_
    first|refine Zhr rfl qH qZ ?_|refine Zhq rfl qH qZ rfl ?_
    first|refine Zhg (Zaw rfl) ?_|refine Zhg (Zar rfl) ?_
    first|refine Zhg (Zaw rfl) ?_|refine Zhg (Zar rfl) ?_
    refine Zh8 rfl (by kernel_rfl) (ht) rfl qT ?_
    rintro _ _ ⟨xa, xc, rfl, rfl⟩
    refine Zg2 qA ?_
    first|refine Zhg (Zmm rfl) ?_|refine Zhg (Zar rfl) ?_
    refine Zhg (Zco rfl rfl) ?_
    refine Zhg (Zco rfl rfl) ?_
    first|refine Zhg (Za2 rfl) ?_|refine Zhg (Zas rfl) ?_
    first|refine Zhg (Za0 rfl) ?_|refine Zhg (Zas rfl) ?_
    refine Zg3 ?_
    refine Ct.o ?_
    refine Zgb ?_
    first|refine Zhg (Zau rfl) ?_|refine Zhg (Zar rfl) ?_
    refine Zhg (Zb0 rfl) ?_
    refine Zhm 28 rfl (rfl) ?_
    refine Zg3 ?_
    refine Ct.o ?_
    refine Zge rfl ?_
    refine Ct.o ?_
    refine Zgb ?_
    first|refine Zhg (Za2 rfl) ?_|refine Zhg (Zas rfl) ?_
    first|refine Zhg (Zaz rfl) ?_|refine Zhg (Zas rfl) ?_
    refine Zg3 ?_
    refine Ct.o ?_
    refine rx2 (Zhc rfl (Zg9 rfl (Zg7))) ?_
    exact ⟨_, ⟨none, 0, rfl, rfl⟩, (Imp.arr (N := L) qV).trans Imp.own_nil⟩
theorem headR_x (p : Plc) : Con Tryz.prog 17 [.agg (plc p)] [] (fun r M => ∃ a c, r = .slice a (headB p).length c ∧ M = [own 5 1 r (headB p).length ((headB p).map u8b)]) := by
  have hhb : leB p.round 8 ++ leB p.counter 4 = headB p := rfl
  have hw := leB_wide p.counter 4
  have ht := fun pa pc1 qa qc => two_x (L := [own 5 1 (.slice qa (leB p.counter 4).length qc) (leB p.counter 4).length ((leB p.counter 4).map u8b), own 5 1 (.slice pa (leB p.round 8).length pc1) (leB p.round 8).length ((leB p.round 8).map u8b)]) (a := leB p.round 8) (b := leB p.counter 4) (Bs.own (.there .here)) (Bs.own .here) (by simp [leB_len])
  have hl4 := little_x (L := []) (p.counter.setWidth 64) 4 (by omega)
  rw [hw] at hl4
  refine fn_x Tryz.func17 rfl rfl rfl Tryz.mixed (by kernel_rfl) ?_
  intro w0
  refine Ct.o ?_
  refine Zgb ?_
  refine Zh5 rfl ?_; intro b1
  first|refine Zhg (Za2 rfl) ?_|refine Zhg (Zas rfl) ?_
  refine Zg3 ?_
  refine Ct.o ?_
  refine Zij ([cl b1 (plc p) 27]) [2, 4, 5] (.q 0 (.q 3 (.r 1 (.r 4 (.r 5 (.e 2 true (.e 6 false (.e 7 false (.q 8 .nil))))))))) (by kernel_rfl) (by kernel_rfl) (Imp.arr qV) ?_
  first|refine Zim rfl (Zl8 rfl) ?_|refine Zim rfl (Zce rfl) ?_
  first|refine Zim rfl (Zl8 rfl) ?_|refine Zim rfl (Zce rfl) ?_
  refine Ziv rfl rfl qH rfl ?_
  refine Ziv rfl rfl qH rfl ?_
  refine Ziz rfl (Zlb rfl) ?_
  refine Ziq rfl ?_
  refine Zh8 rfl (by kernel_rfl) (little_x (L := []) p.round 8 (by omega)) rfl qT ?_
  rintro _ _ ⟨pa, pc1, rfl, rfl⟩
  refine Zg2 qA ?_
  refine Zg3 ⟨fun _ => Imp.arr qV, ?_⟩
  refine Ziq rfl ?_
  refine Zh8 rfl (by kernel_rfl) (hl4) rfl qT ?_
  rintro _ _ ⟨qa, qc, rfl, rfl⟩
  refine Zg2 qA ?_
  refine Zg3 ⟨(fun hh => Bool.noConfusion hh), ?_⟩
  refine Ziq rfl ?_
  refine Zh8 rfl (by kernel_rfl) (ht pa pc1 qa qc) rfl qT ?_
  rintro _ _ ⟨ra, rc, rfl, rfl⟩
  refine Zg2 qA ?_
  refine Zg3 ⟨(fun hh => Bool.noConfusion hh), ?_⟩
  first|refine Zim rfl (Za2 rfl) ?_|refine Zim rfl (Zas rfl) ?_
  refine Zik ?_
  refine Ct.o ?_
  rw [hhb]
  refine rx1 (Zhc rfl (Zg7)) ?_
  exact ⟨_, ⟨ra, rc, rfl, rfl⟩, qI⟩
theorem moreR_x (p : Plc) : Con Tryz.prog 20 [.agg (plc p)] [] (fun r M => ∃ a c, r = .slice a (moreB p).length c ∧ M = [own 5 1 r (moreB p).length ((moreB p).map u8b)]) := by
  have hhb : leB p.page 4 ++ leB p.version 4 = moreB p := rfl
  have ht := fun pa pc1 qa qc => two_x (L := [own 5 1 (.slice qa (leB p.version 4).length qc) (leB p.version 4).length ((leB p.version 4).map u8b), own 5 1 (.slice pa (leB p.page 4).length pc1) (leB p.page 4).length ((leB p.page 4).map u8b)]) (a := leB p.page 4) (b := leB p.version 4) (Bs.own (.there .here)) (Bs.own .here) (by simp [leB_len])
  have hl3 := little_x (L := []) (p.page.setWidth 64) 4 (by omega)
  have hl4 := little_x (L := []) (p.version.setWidth 64) 4 (by omega)
  rw [leB_wide] at hl3 hl4
  refine fn_x Tryz.func20 rfl rfl rfl Tryz.mixed (by kernel_rfl) ?_
  intro w0
  refine Ct.o ?_
  refine Zgb ?_
  refine Zh5 rfl ?_; intro b1
  first|refine Zhg (Za2 rfl) ?_|refine Zhg (Zas rfl) ?_
  refine Zg3 ?_
  refine Ct.o ?_
  refine Zij ([cl b1 (plc p) 27]) [3, 5, 6] (.q 0 (.q 4 (.r 1 (.q 2 (.r 5 (.r 6 (.e 3 true (.e 7 false (.e 8 false (.q 9 .nil)))))))))) (by kernel_rfl) (by kernel_rfl) (Imp.arr qV) ?_
  first|refine Zim rfl (Zl8 rfl) ?_|refine Zim rfl (Zce rfl) ?_
  first|refine Zim rfl (Zl8 rfl) ?_|refine Zim rfl (Zce rfl) ?_
  refine Ziv rfl rfl qH rfl ?_
  refine Zim rfl (Zlb rfl) ?_
  refine Ziv rfl rfl qH rfl ?_
  refine Ziz rfl (Zlb rfl) ?_
  refine Ziq rfl ?_
  refine Zh8 rfl (by kernel_rfl) (hl3) rfl qT ?_
  rintro _ _ ⟨pa, pc1, rfl, rfl⟩
  refine Zg2 qA ?_
  refine Zg3 ⟨fun _ => Imp.arr qV, ?_⟩
  refine Ziq rfl ?_
  refine Zh8 rfl (by kernel_rfl) (hl4) rfl qT ?_
  rintro _ _ ⟨qa, qc, rfl, rfl⟩
  refine Zg2 qA ?_
  refine Zg3 ⟨(fun hh => Bool.noConfusion hh), ?_⟩
  refine Ziq rfl ?_
  refine Zh8 rfl (by kernel_rfl) (ht pa pc1 qa qc) rfl qT ?_
  rintro _ _ ⟨ra, rc, rfl, rfl⟩
  refine Zg2 qA ?_
  refine Zg3 ⟨(fun hh => Bool.noConfusion hh), ?_⟩
  first|refine Zim rfl (Za2 rfl) ?_|refine Zim rfl (Zas rfl) ?_
  refine Zik ?_
  refine Ct.o ?_
  rw [hhb]
  refine rx1 (Zhc rfl (Zg7)) ?_
  exact ⟨_, ⟨ra, rc, rfl, rfl⟩, qI⟩
theorem nonceR_x {L : List Asrt} {v : Value} {b : List Byte} (h : Bs L v b) (hb : b.length = 12) : Con Tryz.prog 19 [v] L (fun r M => r = .agg (b.map u8b).toArray ∧ L = M) := by
  refine Con.get (fun w0 w F H => h.sh _ _ _ H) ?_
  rintro ⟨va, vc, rfl, hvc, hvcm⟩
  refine Con.get (fun w0 w F H => h.some (by omega) H) ?_
  rintro ⟨g0, o0, rfl⟩
  refine fn_x Tryz.func19 rfl rfl rfl Tryz.mixed (by kernel_rfl) ?_
  intro w0
  refine Ct.o ?_
  refine Zgb ?_
  refine Zhz (cs := ((List.replicate 12 0#8).map u8b).toArray) rfl ?_; intro b2
  refine Zg3 ?_
  refine Ct.o ?_
  refine Zgb ?_
  refine Zhz (cs := ((List.replicate 12 0#8).map u8b).toArray) rfl ?_; intro b3
  refine Zg3 ?_
  refine Ct.o ?_
  refine Zgb ?_
  first|refine Zhg (Zaz rfl) ?_|refine Zhg (Zas rfl) ?_
  refine Zg3 ?_
  refine Ct.o ?_
  refine Zgo [(4, 14)] (by kernel_rfl) (fun i : Nat => i ≤ 12) (fun i => cl b3 ((cpK b 12 i).map u8b).toArray 45 :: cl b2 ((List.replicate 12 0#8).map u8b).toArray 45 :: L) (fun i => [(4, nvv i)]) (fun i => 12 - i) 0 (by omega) qI ⟨rfl, trivial⟩ ?_
  intro i u hi
  have hcl := cpK_len b 12 i hi (by omega)
  refine Ct.o ?_
  refine Zgb ?_
  first|refine Zhg (Zat rfl) ?_|refine Zhg (Zar rfl) ?_
  first|refine Zhg (Zmf (b := 12) rfl rfl) ?_|refine Zhg (Zbn rfl rfl) ?_
  refine Zg3 ?_
  refine Ct.o ?_
  refine Zgg rfl (fun hB => ?_) (fun hB => ?_)
  · refine Ct.o ?_
    refine Zgb ?_
    first|refine Zhg (Zat rfl) ?_|refine Zhg (Zar rfl) ?_
    first|refine Zhg (Zaw rfl) ?_|refine Zhg (Zar rfl) ?_
    first|refine Zhg (Zat rfl) ?_|refine Zhg (Zar rfl) ?_
    first|refine Zhg (Zl4 rfl rfl) ?_|refine Zhg (Zl1 rfl rfl) ?_
    refine Zff rfl ((h.rd.imp qI).at (by omega) (getM (by omega))) ?_
    first|refine Zhg (Zl5 rfl rfl) ?_|refine Zhg (Zl3 rfl rfl) ?_
    refine Zht rfl rfl qR qZ (setL (f := u8b)) ?_
    refine Zg3 ?_
    refine Ct.o ?_
    rw [cpK_set b 12 i hB (by omega)]
    refine Ct.o ?_
    refine Zgb ?_
    first|refine Zhg (Zat rfl) ?_|refine Zhg (Zar rfl) ?_
    first|refine Zhg (Zma (b := 1) rfl rfl) ?_|refine Zhg (Zbg rfl rfl) ?_
    first|refine Zhg (Zaz rfl) ?_|refine Zhg (Zas rfl) ?_
    refine Zg3 ?_
    refine Ct.o ?_
    exact Zgl (i + 1) qO (by omega) qI ⟨rfl, trivial⟩
  · have hie : i = 12 := by omega
    subst hie
    have e : cpK b 12 12 = b := by rw [cpK_end b 12 (by omega)]; exact List.take_of_length_le (by omega)
    rw [e] at hcl ⊢
    refine Ct.o ?_
    refine Zgb ?_
    first|refine Zhr rfl qH qZ ?_|refine Zhq rfl qH qZ rfl ?_
    first|refine Zhy rfl rfl qR qZ qN qZ ?_|refine Zhx rfl rfl qR qZ qN qZ rfl ?_
    refine Zg3 ?_
    refine Ct.o ?_
    refine rx1 (Zhe rfl qH qZ (Zg7)) ?_
    exact ⟨_, ⟨rfl, rfl⟩, qI⟩
theorem pgSealRef_x {L : List Asrt} (key : List Byte) (hk : key.length = 32) (p : Plc) {vt : Value} {text : List Byte} (ht : Bs L vt text) (htl : text.length ≤ 140737488351232) :
    Con Tryz.prog 5 [.agg (key.map u8b).toArray, .agg (plc p), vt] L (fun r M => ∃ a c, r = .tuple #[.slice a (pgSealR key p text).1.length c, nvv (pgSealR key p text).2] ∧ M = own 5 1 (.slice a (pgSealR key p text).1.length c) (pgSealR key p text).1.length ((pgSealR key p text).1.map u8b) :: L) := by
  refine Con.get (fun w0 w F H => ht.sh _ _ _ H) ?_
  rintro ⟨ta, tc, rfl, htc, htcm⟩
  by_cases hlong : 4096 < text.length
  · have e : pgSealR key p text = ([], 3) := if_pos hlong
    rw [e]
    refine fn_x Tryz.func5 rfl rfl rfl Tryz.mixed (by kernel_rfl) ?_
    intro w0
    refine Ct.o ?_
    refine Zgb ?_
    refine Zh5 rfl ?_; intro b3
    refine Zh5 rfl ?_; intro b4
    first|refine Zhg (Za2 rfl) ?_|refine Zhg (Zas rfl) ?_
    first|refine Zhg (Zaz rfl) ?_|refine Zhg (Zas rfl) ?_
    refine Zg3 ?_
    refine Ct.o ?_
    refine Zgb ?_
    first|refine Zhg (Zaw rfl) ?_|refine Zhg (Zar rfl) ?_
    first|refine Zhg (Zcr rfl) ?_|refine Zhg (Zct) ?_|refine Zhg (Zcu rfl) ?_
    first|refine Zhg (Zmh (b := 4096) rfl rfl) ?_|refine Zhg (Zbp rfl rfl) ?_
    refine Zhm 13 rfl (decide_eq_true (hlong)) ?_
    refine Zg3 ?_
    refine Ct.o ?_
    refine Zge rfl ?_
    refine Ct.o ?_
    refine Zgb ?_
    first|refine Zhg (Za2 rfl) ?_|refine Zhg (Zas rfl) ?_
    first|refine Zhg (Zaz rfl) ?_|refine Zhg (Zas rfl) ?_
    refine Zg3 ?_
    refine Ct.o ?_
    refine rx2 (Zhc rfl (Zg9 rfl (Zg7))) ?_
    exact ⟨_, ⟨none, 0, rfl, rfl⟩, (Imp.arr (N := L) qV).trans Imp.own_nil⟩
  · have e : pgSealR key p text = (pgSealB key p text, 0) := if_neg hlong
    rw [e]
    have hml := moreB_len p
    have hhl := headB_len p
    have hsl := sealB_len key (headB p) (moreB p) text
    have esr : sealR key (headB p) (moreB p) text = (sealB key (headB p) (moreB p) text, 0) := if_neg (by omega)
    have hs := fun ma mc => sealRef_x (L := own 5 1 (.slice ma (moreB p).length mc) (moreB p).length ((moreB p).map u8b) :: L) key (headB p) hk hhl (Bs.own .here) (ht.imp Imp.tail)
    rw [esr] at hs
    dsimp only at hs
    refine fn_x Tryz.func5 rfl rfl rfl Tryz.mixed (by kernel_rfl) ?_
    intro w0
    refine Ct.o ?_
    refine Zgb ?_
    refine Zh5 rfl ?_; intro b3
    refine Zh5 rfl ?_; intro b4
    first|refine Zhg (Za2 rfl) ?_|refine Zhg (Zas rfl) ?_
    first|refine Zhg (Zaz rfl) ?_|refine Zhg (Zas rfl) ?_
    refine Zg3 ?_
    refine Ct.o ?_
    refine Zgb ?_
    first|refine Zhg (Zaw rfl) ?_|refine Zhg (Zar rfl) ?_
    first|refine Zhg (Zcr rfl) ?_|refine Zhg (Zct) ?_|refine Zhg (Zcu rfl) ?_
    first|refine Zhg (Zmh (b := 4096) rfl rfl) ?_|refine Zhg (Zbp rfl rfl) ?_
    refine Zhn 13 rfl (decide_eq_false (hlong)) ?_
    refine Zg3 ?_
    refine Ct.o ?_
    refine Zgf rfl ?_
    refine Ct.o ?_
    refine Zgb ?_
    first|refine Zhr rfl qH qZ ?_|refine Zhq rfl qH qZ rfl ?_
    refine Zh8 rfl (by kernel_rfl) (headR_x p) rfl qT ?_
    rintro _ _ ⟨ha, hc, rfl, rfl⟩
    refine Zg2 qA ?_
    first|refine Zhg (Za2 rfl) ?_|refine Zhg (Zas rfl) ?_
    refine Zg3 ?_
    refine Ct.o ?_
    refine Zij ([cl b3 (key.map u8b).toArray 23, cl b4 (plc p) 27]) [2, 3, 4] (.q 1 (.q 5 (.r 0 (.r 3 (.e 2 true (.e 4 true (.e 6 false (.q 7 (.q 8 (.q 9 (.q 10 (.q 11 .nil)))))))))))) (by kernel_rfl) (by kernel_rfl) (Imp.arr qV) ?_
    first|refine Zim rfl (Zaw rfl) ?_|refine Zim rfl (Zar rfl) ?_
    first|refine Zim rfl (Zaw rfl) ?_|refine Zim rfl (Zar rfl) ?_
    first|refine Ziy rfl rfl qH qZ ?_|refine Zix rfl rfl qH qZ rfl ?_
    first|refine Ziy rfl rfl qH qZ ?_|refine Zix rfl rfl qH qZ rfl ?_
    refine Ziq rfl ?_
    refine Zh8 rfl (by kernel_rfl) (nonceR_x (L := [own 5 1 (.slice ha (headB p).length hc) (headB p).length ((headB p).map u8b)]) (Bs.own .here) hhl) rfl qT ?_
    rintro _ _ ⟨rfl, rfl⟩
    refine Zg2 qA ?_
    refine Zg3 ⟨fun _ => Imp.arr qV, ?_⟩
    refine Ziq rfl ?_
    refine Zh8 rfl (by kernel_rfl) (moreR_x p) rfl qT ?_
    rintro _ _ ⟨ma, mc, rfl, rfl⟩
    refine Zg2 qA ?_
    refine Zg3 ⟨fun _ => Imp.arr qV, ?_⟩
    refine Ziq rfl ?_
    refine Zh8 rfl (by kernel_rfl) (hs ma mc) rfl qT ?_
    rintro _ _ ⟨sa, sc, rfl, rfl⟩
    refine Zg2 qA ?_
    refine Zg3 ⟨(fun hh => Bool.noConfusion hh), ?_⟩
    first|refine Zim rfl (Zmm rfl) ?_|refine Zim rfl (Zar rfl) ?_
    refine Zim rfl (Zco rfl rfl) ?_
    refine Zim rfl (Zco rfl rfl) ?_
    first|refine Zim rfl (Za2 rfl) ?_|refine Zim rfl (Zas rfl) ?_
    first|refine Zim rfl (Zaz rfl) ?_|refine Zim rfl (Zas rfl) ?_
    refine Zik ?_
    refine Ct.o ?_
    refine Zgb ?_
    first|refine Zhg (Zat rfl) ?_|refine Zhg (Zar rfl) ?_
    first|refine Zhg (Zmk (b := 0) rfl rfl) ?_|refine Zhg (Zbs rfl rfl) ?_
    refine Zhn 27 rfl (decide_eq_false ((fun h => h rfl))) ?_
    refine Zg3 ?_
    refine Ct.o ?_
    refine Zgf rfl ?_
    refine Ct.o ?_
    refine Zgb ?_
    first|refine Zhg (Zaw rfl) ?_|refine Zhg (Zar rfl) ?_
    first|refine Zhg (Zaw rfl) ?_|refine Zhg (Zar rfl) ?_
    refine Zh8 rfl (by kernel_rfl) (two_x (L := [own 5 1 (.slice ha (headB p).length hc) (headB p).length ((headB p).map u8b), own 5 1 (.slice sa (sealB key (headB p) (moreB p) text).length sc) (sealB key (headB p) (moreB p) text).length ((sealB key (headB p) (moreB p) text).map u8b)]) (a := headB p) (b := sealB key (headB p) (moreB p) text) (Bs.own .here) (Bs.own (.there .here)) (by rw [List.length_append]; omega)) rfl qT ?_
    rintro _ _ ⟨ra, rc, rfl, rfl⟩
    refine Zg2 qA ?_
    first|refine Zhg (Za2 rfl) ?_|refine Zhg (Zas rfl) ?_
    first|refine Zhg (Zaz rfl) ?_|refine Zhg (Zas rfl) ?_
    refine Zg3 ?_
    refine Ct.o ?_
    refine rx2 (Zhc rfl (Zg9 rfl (Zg7))) ?_
    exact ⟨_, ⟨ra, rc, rfl, rfl⟩, qI⟩
end Go.Sl

/- the document's pages (trystref12): Open, number, Head, walked. -/
set_option maxHeartbeats 4000000
set_option maxRecDepth 10000
set_option linter.unusedVariables false
set_option linter.unusedSimpArgs false
namespace Go.Sl
open Go Go.Proofs
attribute [local irreducible] cl pt own old pur ex all den denOps denS xOps xC cX CX xthen xblk xcut xloop xgo xng retX resX Calls PV Rd Con
attribute [local irreducible] code blockB ksB xorB vouchB leB sealB rightB textB coverB tagB headB moreB
theorem number_x {L : List Asrt} {v : Value} {b : List Byte} (h : Bs L v b) (hb : b.length ≤ 140737488351232) : Con Tryz.prog 27 [v] L (fun r M => r = u64b (BitVec.ofNat 64 (leN b)) ∧ L = M) := by
  refine Con.get (fun w0 w F H => h.sh _ _ _ H) ?_
  rintro ⟨va, vc, rfl, hvc, hvcm⟩
  refine fn_x Tryz.func27 rfl rfl rfl Tryz.mixed (by kernel_rfl) ?_
  intro w0
  refine Ct.o ?_
  refine Zgb ?_
  first|refine Zhg (Zaz rfl) ?_|refine Zhg (Zas rfl) ?_
  refine Zg3 ?_
  refine Ct.o ?_
  refine Zgb ?_
  first|refine Zhg (Zaz rfl) ?_|refine Zhg (Zas rfl) ?_
  refine Zg3 ?_
  refine Ct.o ?_
  refine Zgb ?_
  first|refine Zhg (Zaw rfl) ?_|refine Zhg (Zar rfl) ?_
  first|refine Zhg (Zcr rfl) ?_|refine Zhg (Zct) ?_|refine Zhg (Zcu rfl) ?_
  refine Zhg (Zbh (b := 1) rfl rfl (by omega)) ?_
  first|refine Zhg (Zaz rfl) ?_|refine Zhg (Zas rfl) ?_
  refine Zg3 ?_
  refine Ct.o ?_
  refine Zgo [(3, 4), (8, 19)] (by kernel_rfl) (fun i : Nat => i ≤ b.length) (fun _ => L) (fun i => [(3, u64b (BitVec.ofNat 64 (leN (b.drop i)))), (4, .int .i64 ((i : Int) - 1))]) (fun i => i) b.length (by omega) qI ⟨by rw [List.drop_length]; rfl, rfl, trivial⟩ ?_
  intro i u hi
  refine Ct.o ?_
  refine Zgb ?_
  first|refine Zhg (Zat rfl) ?_|refine Zhg (Zar rfl) ?_
  refine Zhg (Zbq (b := 0) rfl rfl) ?_
  refine Zg3 ?_
  refine Ct.o ?_
  refine Zgg rfl (fun hB => ?_) (fun hB => ?_)
  · obtain ⟨j, rfl⟩ : ∃ j, i = j + 1 := ⟨i - 1, by omega⟩
    have hj : j < b.length := by omega
    refine Zgt (fun F w H => h.some (by omega) H) ?_
    rintro ⟨a1, a2, rfl⟩
    refine Ct.o ?_
    refine Zgb ?_
    first|refine Zhg (Zat rfl) ?_|refine Zhg (Zar rfl) ?_
    refine Zhg (Zle (y := 256#64) rfl rfl) ?_
    first|refine Zhg (Zaw rfl) ?_|refine Zhg (Zar rfl) ?_
    first|refine Zhg (Zat rfl) ?_|refine Zhg (Zar rfl) ?_
    first|refine Zhg (Zl4 (n := j) rfl (int_eq (by push_cast; omega))) ?_|refine Zhg (Zl1 (n := j) rfl (int_eq (by push_cast; omega))) ?_
    refine Zff rfl (h.rd.at hj (getM hj)) ?_
    refine Zhg (Zjx rfl) ?_
    refine Zhg (Zlc rfl rfl) ?_
    first|refine Zhg (Zaz rfl) ?_|refine Zhg (Zas rfl) ?_
    refine Zg3 ?_
    refine Ct.o ?_
    refine Zgb ?_
    first|refine Zhg (Zat rfl) ?_|refine Zhg (Zar rfl) ?_
    refine Zhg (Zbh (b := 1) rfl rfl (by omega)) ?_
    first|refine Zhg (Zaz rfl) ?_|refine Zhg (Zas rfl) ?_
    refine Zg3 ?_
    refine Ct.o ?_
    exact Zgl j qO (by omega) qI ⟨by show u64b _ = u64b _; rw [numStep, List.drop_eq_getElem_cons hj]; rfl, int_eq (by omega), trivial⟩
  · have hie : i = 0 := by omega
    subst hie
    rw [List.drop_zero]
    refine Ct.o ?_
    refine Zgb ?_
    first|refine Zhg (Zat rfl) ?_|refine Zhg (Zar rfl) ?_
    first|refine Zhg (Zaz rfl) ?_|refine Zhg (Zas rfl) ?_
    refine Zg3 ?_
    refine Ct.o ?_
    refine rx1 (Zg9 rfl (Zg7)) ?_
    exact ⟨_, ⟨rfl, rfl⟩, by exact Imp.arr (by repeat (first|exact Arr.nil|exact Arr.stop|refine Arr.cons (by repeat constructor) ?_|refine Arr.skip ?_))⟩
theorem num8 (b : List Byte) (h : b.length = 8) : BitVec.ofNat 64 (leN b) = lowB 64 b := by
  apply BitVec.eq_of_toNat_eq
  have := lowB_val 64 8 b h (by omega)
  rw [BitVec.toNat_ofNat, ← this]
  exact Nat.mod_eq_of_lt (lowB 64 b).isLt
theorem num4 (b : List Byte) (h : b.length = 4) : (BitVec.ofNat 64 (leN b)).setWidth 32 = lowB 32 b := by
  rw [num32 b h]
  apply BitVec.eq_of_toNat_eq
  have := (lowB 32 b).isLt
  rw [BitVec.toNat_setWidth, BitVec.toNat_setWidth, Nat.mod_eq_of_lt (show (lowB 32 b).toNat < 2 ^ 64 by omega), Nat.mod_eq_of_lt this]
theorem headRef_x {L : List Asrt} {v : Value} {b : List Byte} (h : Bs L v b) (hb : b.length ≤ 140737488351232) :
    Con Tryz.prog 14 [v] L (fun r M => r = .tuple #[u64b (pgHeadR b).1, u32b (pgHeadR b).2.1, nvv (pgHeadR b).2.2] ∧ L = M) := by
  refine Con.get (fun w0 w F H => h.sh _ _ _ H) ?_
  rintro ⟨va, vc, rfl, hvc, hvcm⟩
  by_cases h28 : b.length < 28
  · have e : pgHeadR b = (0#64, 0#32, 20) := if_pos h28
    rw [e]
    refine fn_x Tryz.func14 rfl rfl rfl Tryz.mixed (by kernel_rfl) ?_
    intro w0
    refine Ct.o ?_
    refine Zgb ?_
    first|refine Zhg (Zaz rfl) ?_|refine Zhg (Zas rfl) ?_
    first|refine Zhg (Zaz rfl) ?_|refine Zhg (Zas rfl) ?_
    first|refine Zhg (Zaz rfl) ?_|refine Zhg (Zas rfl) ?_
    refine Zg3 ?_
    refine Ct.o ?_
    refine Zgb ?_
    first|refine Zhg (Zaw rfl) ?_|refine Zhg (Zar rfl) ?_
    first|refine Zhg (Zcr rfl) ?_|refine Zhg (Zct) ?_|refine Zhg (Zcu rfl) ?_
    first|refine Zhg (Zmf (b := 28) rfl rfl) ?_|refine Zhg (Zbn rfl rfl) ?_
    refine Zhm 7 rfl (decide_eq_true (h28)) ?_
    refine Zg3 ?_
    refine Ct.o ?_
    refine Zge rfl ?_
    refine Ct.o ?_
    refine Zgb ?_
    first|refine Zhg (Zaz rfl) ?_|refine Zhg (Zas rfl) ?_
    first|refine Zhg (Zaz rfl) ?_|refine Zhg (Zas rfl) ?_
    first|refine Zhg (Zaz rfl) ?_|refine Zhg (Zas rfl) ?_
    refine Zg3 ?_
    refine Ct.o ?_
    refine rx3 (Zg9 rfl (Zg9 rfl (Zg9 rfl (Zg7)))) ?_
    exact ⟨_, ⟨rfl, rfl⟩, qI⟩
  · have e : pgHeadR b = (lowB 64 (b.take 8), lowB 32 ((b.drop 8).take 4), 0) := if_neg h28
    rw [e]
    refine Con.get (fun w0 w F H => h.some (by omega) H) ?_
    rintro ⟨b0, o0, rfl⟩
    have l8 : (b.take 8).length = 8 := by simp; omega
    have l4 : ((b.drop 8).take 4).length = 4 := by simp; omega
    have h1 : Bs L (.slice (some ⟨b0, o0, none⟩) 8 vc) (b.take 8) := h.take (by omega)
    have h0 : Bs L (.slice (some ⟨b0, o0 + 8, none⟩) (b.length - 8) (vc - 8)) (b.drop 8) := bs_drop h (by omega) (by omega)
    have hd : (b.drop 8).length = b.length - 8 := List.length_drop
    rw [← hd] at h0
    have h2 : Bs L (.slice (some ⟨b0, o0 + 8, none⟩) 4 (vc - 8)) ((b.drop 8).take 4) := h0.take (by omega)
    have n1 := number_x h1 (by omega)
    have n2 := number_x h2 (by omega)
    rw [num8 _ l8] at n1
    have e4 := num4 _ l4
    generalize BitVec.ofNat 64 (leN ((b.drop 8).take 4)) = q at n2 e4
    rw [← e4]
    refine fn_x Tryz.func14 rfl rfl rfl Tryz.mixed (by kernel_rfl) ?_
    intro w0
    refine Ct.o ?_
    refine Zgb ?_
    first|refine Zhg (Zaz rfl) ?_|refine Zhg (Zas rfl) ?_
    first|refine Zhg (Zaz rfl) ?_|refine Zhg (Zas rfl) ?_
    first|refine Zhg (Zaz rfl) ?_|refine Zhg (Zas rfl) ?_
    refine Zg3 ?_
    refine Ct.o ?_
    refine Zgb ?_
    first|refine Zhg (Zaw rfl) ?_|refine Zhg (Zar rfl) ?_
    first|refine Zhg (Zcr rfl) ?_|refine Zhg (Zct) ?_|refine Zhg (Zcu rfl) ?_
    first|refine Zhg (Zmf (b := 28) rfl rfl) ?_|refine Zhg (Zbn rfl rfl) ?_
    refine Zhn 7 rfl (decide_eq_false (h28)) ?_
    refine Zg3 ?_
    refine Ct.o ?_
    refine Zgf rfl ?_
    refine Ct.o ?_
    refine Zij ([]) [] (.q 0 (.q 1 (.q 3 (.q 4 (.e 2 false (.e 5 false (.q 6 (.q 7 (.q 8 (.q 9 .nil)))))))))) (by kernel_rfl) (by kernel_rfl) (Imp.arr Arr.stop) ?_
    first|refine Zim rfl (Zaw rfl) ?_|refine Zim rfl (Zar rfl) ?_
    refine Zim rfl (Zm0 (h := 8) rfl rfl (by omega)) ?_
    first|refine Zim rfl (Zaw rfl) ?_|refine Zim rfl (Zar rfl) ?_
    first|refine Zim rfl (Zna (l := 8) (h := 12) rfl qB qB) ?_|refine Zim rfl (Zmz (l := 8) (h := 12) rfl qB qB) ?_
    refine Ziq rfl ?_
    refine Zh8 rfl (by kernel_rfl) (n1) rfl qT ?_
    rintro _ _ ⟨rfl, rfl⟩
    refine Zg2 qA ?_
    refine Zg3 ⟨(fun hh => Bool.noConfusion hh), ?_⟩
    refine Ziq rfl ?_
    refine Zh8 rfl (by kernel_rfl) (n2) rfl qT ?_
    rintro _ _ ⟨rfl, rfl⟩
    refine Zg2 qA ?_
    refine Zg3 ⟨(fun hh => Bool.noConfusion hh), ?_⟩
    refine Zim rfl (Zlz rfl) ?_
    first|refine Zim rfl (Zaz rfl) ?_|refine Zim rfl (Zas rfl) ?_
    first|refine Zim rfl (Zaz rfl) ?_|refine Zim rfl (Zas rfl) ?_
    first|refine Zim rfl (Zaz rfl) ?_|refine Zim rfl (Zas rfl) ?_
    refine Zik ?_
    refine Ct.o ?_
    refine rx3 (Zg9 rfl (Zg9 rfl (Zg9 rfl (Zg7)))) ?_
    exact ⟨_, ⟨rfl, rfl⟩, qI⟩
theorem pgOpenRef_x {L : List Asrt} (key : List Byte) (hk : key.length = 32) (p : Plc) {vb : Value} {box : List Byte} (hb : Bs L vb box) (hbl : box.length ≤ 140737488351232) :
    Con Tryz.prog 13 [.agg (key.map u8b).toArray, .agg (plc p), vb] L (fun r M => ∃ a c, r = .tuple #[.slice a (pgOpenR key p box).1.length c, nvv (pgOpenR key p box).2] ∧ M = own 5 1 (.slice a (pgOpenR key p box).1.length c) (pgOpenR key p box).1.length ((pgOpenR key p box).1.map u8b) :: L) := by
  refine Con.get (fun w0 w F H => hb.sh _ _ _ H) ?_
  rintro ⟨ba, bc, rfl, hbc, hbcm⟩
  have eno : ¬ pgFits p box → pgOpenR key p box = ([], 120) := fun h => if_neg (fun h2 => h h2.1)
  by_cases h28 : box.length < 28
  · rw [eno (fun h => by have := h.1; omega)]
    refine fn_x Tryz.func13 rfl rfl rfl Tryz.mixed (by kernel_rfl) ?_
    intro w0
    refine Ct.o ?_
    refine Zgb ?_
    refine Zh5 rfl ?_; intro b3
    refine Zh5 rfl ?_; intro b4
    first|refine Zhg (Za2 rfl) ?_|refine Zhg (Zas rfl) ?_
    first|refine Zhg (Zaz rfl) ?_|refine Zhg (Zas rfl) ?_
    refine Zg3 ?_
    refine Ct.o ?_
    refine Zgb ?_
    first|refine Zhg (Zaw rfl) ?_|refine Zhg (Zar rfl) ?_
    first|refine Zhg (Zcr rfl) ?_|refine Zhg (Zct) ?_|refine Zhg (Zcu rfl) ?_
    first|refine Zhg (Zmf (b := 28) rfl rfl) ?_|refine Zhg (Zbn rfl rfl) ?_
    refine Zhm 13 rfl (decide_eq_true (h28)) ?_
    first|refine Zhg (Zau rfl) ?_|refine Zhg (Zar rfl) ?_
    first|refine Zhi rfl ?_|refine Zhj rfl ?_|(refine Zhh rfl ?_; (first|refine Zhg (Zaw rfl) ?_|refine Zhg (Zar rfl) ?_))
    first|refine Zhi rfl ?_|refine Zhj rfl ?_|(refine Zhh rfl ?_; (first|refine Zhg (Zcr rfl) ?_|refine Zhg (Zct) ?_|refine Zhg (Zcu rfl) ?_))
    first|refine Zhi rfl ?_|refine Zhj rfl ?_|(refine Zhh rfl ?_; (first|refine Zhg (Zmh (b := 4124) rfl rfl) ?_|refine Zhg (Zbp rfl rfl) ?_))
    first|refine Zhg (Zdz rfl rfl) ?_|refine Zhg (Zd0 rfl rfl) ?_|refine Zhg (Za8 rfl rfl) ?_|refine Zhg (Za9 rfl rfl) ?_|refine Zhg (Za6 rfl rfl) ?_|refine Zhg (Za7 rfl rfl) ?_
    refine Zg3 ?_
    refine Ct.o ?_
    refine Zge rfl ?_
    refine Ct.o ?_
    refine Zgb ?_
    first|refine Zhg (Za2 rfl) ?_|refine Zhg (Zas rfl) ?_
    first|refine Zhg (Zaz rfl) ?_|refine Zhg (Zas rfl) ?_
    refine Zg3 ?_
    refine Ct.o ?_
    refine rx2 (Zhc rfl (Zg9 rfl (Zg7))) ?_
    exact ⟨_, ⟨none, 0, rfl, rfl⟩, (Imp.arr (N := L) qV).trans Imp.own_nil⟩
  by_cases hlong : 4124 < box.length
  · rw [eno (fun h => by have := h.2.1; omega)]
    refine fn_x Tryz.func13 rfl rfl rfl Tryz.mixed (by kernel_rfl) ?_
    intro w0
    refine Ct.o ?_
    refine Zgb ?_
    refine Zh5 rfl ?_; intro b3
    refine Zh5 rfl ?_; intro b4
    first|refine Zhg (Za2 rfl) ?_|refine Zhg (Zas rfl) ?_
    first|refine Zhg (Zaz rfl) ?_|refine Zhg (Zas rfl) ?_
    refine Zg3 ?_
    refine Ct.o ?_
    refine Zgb ?_
    first|refine Zhg (Zaw rfl) ?_|refine Zhg (Zar rfl) ?_
    first|refine Zhg (Zcr rfl) ?_|refine Zhg (Zct) ?_|refine Zhg (Zcu rfl) ?_
    first|refine Zhg (Zmf (b := 28) rfl rfl) ?_|refine Zhg (Zbn rfl rfl) ?_
    refine Zhn 13 rfl (decide_eq_false (h28)) ?_
    first|refine Zhg (Zau rfl) ?_|refine Zhg (Zar rfl) ?_
    first|refine Zhi rfl ?_|refine Zhj rfl ?_|(refine Zhh rfl ?_; (first|refine Zhg (Zaw rfl) ?_|refine Zhg (Zar rfl) ?_))
    first|refine Zhi rfl ?_|refine Zhj rfl ?_|(refine Zhh rfl ?_; (first|refine Zhg (Zcr rfl) ?_|refine Zhg (Zct) ?_|refine Zhg (Zcu rfl) ?_))
    first|refine Zhi rfl ?_|refine Zhj rfl ?_|(refine Zhh rfl ?_; (first|refine Zhg (Zmh (b := 4124) rfl rfl) ?_|refine Zhg (Zbp rfl rfl) ?_))
    refine Zhm 17 rfl (decide_eq_true (hlong)) ?_
    first|refine Zhg (Zdz rfl rfl) ?_|refine Zhg (Zd0 rfl rfl) ?_|refine Zhg (Za8 rfl rfl) ?_|refine Zhg (Za9 rfl rfl) ?_|refine Zhg (Za6 rfl rfl) ?_|refine Zhg (Za7 rfl rfl) ?_
    refine Zg3 ?_
    refine Ct.o ?_
    refine Zge rfl ?_
    refine Ct.o ?_
    refine Zgb ?_
    first|refine Zhg (Za2 rfl) ?_|refine Zhg (Zas rfl) ?_
    first|refine Zhg (Zaz rfl) ?_|refine Zhg (Zas rfl) ?_
    refine Zg3 ?_
    refine Ct.o ?_
    refine rx2 (Zhc rfl (Zg9 rfl (Zg7))) ?_
    exact ⟨_, ⟨none, 0, rfl, rfl⟩, (Imp.arr (N := L) qV).trans Imp.own_nil⟩
  have hhl := headB_len p
  have hml := moreB_len p
  have hdl : (box.drop 12).length = box.length - 12 := List.length_drop
  refine Con.get (fun w0 w F H => hb.some (by omega) H) ?_
  rintro ⟨b0, o0, rfl⟩
  have htk : Bs L (.slice (some ⟨b0, o0, none⟩) 12 bc) (box.take 12) := hb.take (by omega)
  have he := fun ha hc => eqBytes_x (L := own 5 1 (.slice ha (headB p).length hc) (headB p).length ((headB p).map u8b) :: L) (a := box.take 12) (b := headB p) (htk.imp Imp.tail) (Bs.own .here)
  by_cases hpl : box.take 12 = headB p
  · have hfit : pgFits p box := ⟨by omega, by omega, hpl⟩
    have hdb : Bs L (.slice (some ⟨b0, o0 + 12, none⟩) (box.length - 12) (bc - 12)) (box.drop 12) := bs_drop hb (by omega) (by omega)
    have ho := fun ma mc => openRef_x (L := own 5 1 (.slice ma (moreB p).length mc) (moreB p).length ((moreB p).map u8b) :: L) key (headB p) hk (headB_len p) (Bs.own .here) (hdb.imp Imp.tail)
    by_cases hr2 : rightB key (headB p) (moreB p) (box.drop 12) = true
    · have e : pgOpenR key p box = (textB key (headB p) (box.drop 12), 0) := if_pos ⟨hfit, hr2⟩
      have eo : openR key (headB p) (moreB p) (box.drop 12) = (textB key (headB p) (box.drop 12), 0) := by unfold openR; rw [if_neg (by omega), if_neg (by omega), if_pos hr2]
      rw [e]
      rw [eo] at ho
      dsimp only at ho
      refine fn_x Tryz.func13 rfl rfl rfl Tryz.mixed (by kernel_rfl) ?_
      intro w0
      refine Ct.o ?_
      refine Zgb ?_
      refine Zh5 rfl ?_; intro b3
      refine Zh5 rfl ?_; intro b4
      first|refine Zhg (Za2 rfl) ?_|refine Zhg (Zas rfl) ?_
      first|refine Zhg (Zaz rfl) ?_|refine Zhg (Zas rfl) ?_
      refine Zg3 ?_
      refine Ct.o ?_
      refine Zgb ?_
      first|refine Zhg (Zaw rfl) ?_|refine Zhg (Zar rfl) ?_
      first|refine Zhg (Zcr rfl) ?_|refine Zhg (Zct) ?_|refine Zhg (Zcu rfl) ?_
      first|refine Zhg (Zmf (b := 28) rfl rfl) ?_|refine Zhg (Zbn rfl rfl) ?_
      refine Zhn 13 rfl (decide_eq_false (h28)) ?_
      first|refine Zhg (Zau rfl) ?_|refine Zhg (Zar rfl) ?_
      first|refine Zhi rfl ?_|refine Zhj rfl ?_|(refine Zhh rfl ?_; (first|refine Zhg (Zaw rfl) ?_|refine Zhg (Zar rfl) ?_))
      first|refine Zhi rfl ?_|refine Zhj rfl ?_|(refine Zhh rfl ?_; (first|refine Zhg (Zcr rfl) ?_|refine Zhg (Zct) ?_|refine Zhg (Zcu rfl) ?_))
      first|refine Zhi rfl ?_|refine Zhj rfl ?_|(refine Zhh rfl ?_; (first|refine Zhg (Zmh (b := 4124) rfl rfl) ?_|refine Zhg (Zbp rfl rfl) ?_))
      refine Zhn 17 rfl (decide_eq_false (hlong)) ?_
      first|refine Zhg (Zdz rfl rfl) ?_|refine Zhg (Zd0 rfl rfl) ?_|refine Zhg (Za8 rfl rfl) ?_|refine Zhg (Za9 rfl rfl) ?_|refine Zhg (Za6 rfl rfl) ?_|refine Zhg (Za7 rfl rfl) ?_
      refine Zg3 ?_
      refine Ct.o ?_
      refine Zgf rfl ?_
      refine Ct.o ?_
      refine Zgb ?_
      first|refine Zhr rfl qH qZ ?_|refine Zhq rfl qH qZ rfl ?_
      refine Zh8 rfl (by kernel_rfl) (headR_x p) rfl qT ?_
      rintro _ _ ⟨ha, hc, rfl, rfl⟩
      refine Zg2 qA ?_
      first|refine Zhg (Za2 rfl) ?_|refine Zhg (Zas rfl) ?_
      refine Zg3 ?_
      refine Ct.o ?_
      refine Zgb ?_
      first|refine Zhg (Zaw rfl) ?_|refine Zhg (Zar rfl) ?_
      refine Zhg (Zm0 (h := 12) rfl rfl (by omega)) ?_
      first|refine Zhg (Zaw rfl) ?_|refine Zhg (Zar rfl) ?_
      refine Zh8 rfl (by kernel_rfl) (he ha hc) rfl qT ?_
      rintro _ _ ⟨rfl, rfl⟩
      refine Zg2 qA ?_
      refine Zhm 24 rfl (decide_eq_true (hpl)) ?_
      refine Zhg (Zb0 rfl) ?_
      refine Zhn 25 rfl (rfl) ?_
      refine Zg3 ?_
      refine Ct.o ?_
      refine Zgf rfl ?_
      refine Ct.o ?_
      refine Zij ([cl b3 (key.map u8b).toArray 23, cl b4 (plc p) 27]) [2, 3, 4] (.q 1 (.q 5 (.q 6 (.r 0 (.r 3 (.e 2 true (.e 4 true (.e 7 false (.q 8 (.q 9 (.q 10 (.q 11 (.q 12 .nil))))))))))))) (by kernel_rfl) (by kernel_rfl) (Imp.arr qV) ?_
      first|refine Zim rfl (Zaw rfl) ?_|refine Zim rfl (Zar rfl) ?_
      first|refine Zim rfl (Zaw rfl) ?_|refine Zim rfl (Zar rfl) ?_
      first|refine Zim rfl (Zna (l := 12) (h := box.length) rfl qB qB) ?_|refine Zim rfl (Zmz (l := 12) (h := box.length) rfl qB qB) ?_
      first|refine Ziy rfl rfl qH qZ ?_|refine Zix rfl rfl qH qZ rfl ?_
      first|refine Ziy rfl rfl qH qZ ?_|refine Zix rfl rfl qH qZ rfl ?_
      refine Ziq rfl ?_
      refine Zh8 rfl (by kernel_rfl) (nonceR_x (L := [own 5 1 (.slice ha (headB p).length hc) (headB p).length ((headB p).map u8b)]) (Bs.own .here) hhl) rfl qT ?_
      rintro _ _ ⟨rfl, rfl⟩
      refine Zg2 qA ?_
      refine Zg3 ⟨fun _ => Imp.arr qV, ?_⟩
      refine Ziq rfl ?_
      refine Zh8 rfl (by kernel_rfl) (moreR_x p) rfl qT ?_
      rintro _ _ ⟨ma, mc, rfl, rfl⟩
      refine Zg2 qA ?_
      refine Zg3 ⟨fun _ => Imp.arr qV, ?_⟩
      refine Ziq rfl ?_
      refine Zh8 rfl (by kernel_rfl) (ho ma mc) rfl qT ?_
      rintro _ _ ⟨xa, xc, rfl, rfl⟩
      refine Zg2 qA ?_
      refine Zg3 ⟨(fun hh => Bool.noConfusion hh), ?_⟩
      first|refine Zim rfl (Zmm rfl) ?_|refine Zim rfl (Zar rfl) ?_
      refine Zim rfl (Zco rfl rfl) ?_
      refine Zim rfl (Zco rfl rfl) ?_
      first|refine Zim rfl (Za2 rfl) ?_|refine Zim rfl (Zas rfl) ?_
      first|refine Zim rfl (Zaz rfl) ?_|refine Zim rfl (Zas rfl) ?_
      refine Zik ?_
      refine Ct.o ?_
      refine Zgb ?_
      first|refine Zhg (Zat rfl) ?_|refine Zhg (Zar rfl) ?_
      first|refine Zhg (Zmk (b := 0) rfl rfl) ?_|refine Zhg (Zbs rfl rfl) ?_
      refine Zhn 38 rfl (decide_eq_false ((fun h => h rfl))) ?_
      refine Zg3 ?_
      refine Ct.o ?_
      refine Zgf rfl ?_
      refine Ct.o ?_
      refine Zgb ?_
      first|refine Zhg (Zaw rfl) ?_|refine Zhg (Zar rfl) ?_
      first|refine Zhg (Za2 rfl) ?_|refine Zhg (Zas rfl) ?_
      first|refine Zhg (Zaz rfl) ?_|refine Zhg (Zas rfl) ?_
      refine Zg3 ?_
      refine Ct.o ?_
      refine rx2 (Zhc rfl (Zg9 rfl (Zg7))) ?_
      exact ⟨_, ⟨xa, xc, rfl, rfl⟩, qI⟩
    · have e : pgOpenR key p box = ([], 120) := if_neg (fun h => hr2 h.2)
      have eo : openR key (headB p) (moreB p) (box.drop 12) = ([], 70) := by unfold openR; rw [if_neg (by omega), if_neg (by omega), if_neg hr2]
      rw [e]
      rw [eo] at ho
      dsimp only at ho
      refine fn_x Tryz.func13 rfl rfl rfl Tryz.mixed (by kernel_rfl) ?_
      intro w0
      refine Ct.o ?_
      refine Zgb ?_
      refine Zh5 rfl ?_; intro b3
      refine Zh5 rfl ?_; intro b4
      first|refine Zhg (Za2 rfl) ?_|refine Zhg (Zas rfl) ?_
      first|refine Zhg (Zaz rfl) ?_|refine Zhg (Zas rfl) ?_
      refine Zg3 ?_
      refine Ct.o ?_
      refine Zgb ?_
      first|refine Zhg (Zaw rfl) ?_|refine Zhg (Zar rfl) ?_
      first|refine Zhg (Zcr rfl) ?_|refine Zhg (Zct) ?_|refine Zhg (Zcu rfl) ?_
      first|refine Zhg (Zmf (b := 28) rfl rfl) ?_|refine Zhg (Zbn rfl rfl) ?_
      refine Zhn 13 rfl (decide_eq_false (h28)) ?_
      first|refine Zhg (Zau rfl) ?_|refine Zhg (Zar rfl) ?_
      first|refine Zhi rfl ?_|refine Zhj rfl ?_|(refine Zhh rfl ?_; (first|refine Zhg (Zaw rfl) ?_|refine Zhg (Zar rfl) ?_))
      first|refine Zhi rfl ?_|refine Zhj rfl ?_|(refine Zhh rfl ?_; (first|refine Zhg (Zcr rfl) ?_|refine Zhg (Zct) ?_|refine Zhg (Zcu rfl) ?_))
      first|refine Zhi rfl ?_|refine Zhj rfl ?_|(refine Zhh rfl ?_; (first|refine Zhg (Zmh (b := 4124) rfl rfl) ?_|refine Zhg (Zbp rfl rfl) ?_))
      refine Zhn 17 rfl (decide_eq_false (hlong)) ?_
      first|refine Zhg (Zdz rfl rfl) ?_|refine Zhg (Zd0 rfl rfl) ?_|refine Zhg (Za8 rfl rfl) ?_|refine Zhg (Za9 rfl rfl) ?_|refine Zhg (Za6 rfl rfl) ?_|refine Zhg (Za7 rfl rfl) ?_
      refine Zg3 ?_
      refine Ct.o ?_
      refine Zgf rfl ?_
      refine Ct.o ?_
      refine Zgb ?_
      first|refine Zhr rfl qH qZ ?_|refine Zhq rfl qH qZ rfl ?_
      refine Zh8 rfl (by kernel_rfl) (headR_x p) rfl qT ?_
      rintro _ _ ⟨ha, hc, rfl, rfl⟩
      refine Zg2 qA ?_
      first|refine Zhg (Za2 rfl) ?_|refine Zhg (Zas rfl) ?_
      refine Zg3 ?_
      refine Ct.o ?_
      refine Zgb ?_
      first|refine Zhg (Zaw rfl) ?_|refine Zhg (Zar rfl) ?_
      refine Zhg (Zm0 (h := 12) rfl rfl (by omega)) ?_
      first|refine Zhg (Zaw rfl) ?_|refine Zhg (Zar rfl) ?_
      refine Zh8 rfl (by kernel_rfl) (he ha hc) rfl qT ?_
      rintro _ _ ⟨rfl, rfl⟩
      refine Zg2 qA ?_
      refine Zhm 24 rfl (decide_eq_true (hpl)) ?_
      refine Zhg (Zb0 rfl) ?_
      refine Zhn 25 rfl (rfl) ?_
      refine Zg3 ?_
      refine Ct.o ?_
      refine Zgf rfl ?_
      refine Ct.o ?_
      refine Zij ([cl b3 (key.map u8b).toArray 23, cl b4 (plc p) 27]) [2, 3, 4] (.q 1 (.q 5 (.q 6 (.r 0 (.r 3 (.e 2 true (.e 4 true (.e 7 false (.q 8 (.q 9 (.q 10 (.q 11 (.q 12 .nil))))))))))))) (by kernel_rfl) (by kernel_rfl) (Imp.arr qV) ?_
      first|refine Zim rfl (Zaw rfl) ?_|refine Zim rfl (Zar rfl) ?_
      first|refine Zim rfl (Zaw rfl) ?_|refine Zim rfl (Zar rfl) ?_
      first|refine Zim rfl (Zna (l := 12) (h := box.length) rfl qB qB) ?_|refine Zim rfl (Zmz (l := 12) (h := box.length) rfl qB qB) ?_
      first|refine Ziy rfl rfl qH qZ ?_|refine Zix rfl rfl qH qZ rfl ?_
      first|refine Ziy rfl rfl qH qZ ?_|refine Zix rfl rfl qH qZ rfl ?_
      refine Ziq rfl ?_
      refine Zh8 rfl (by kernel_rfl) (nonceR_x (L := [own 5 1 (.slice ha (headB p).length hc) (headB p).length ((headB p).map u8b)]) (Bs.own .here) hhl) rfl qT ?_
      rintro _ _ ⟨rfl, rfl⟩
      refine Zg2 qA ?_
      refine Zg3 ⟨fun _ => Imp.arr qV, ?_⟩
      refine Ziq rfl ?_
      refine Zh8 rfl (by kernel_rfl) (moreR_x p) rfl qT ?_
      rintro _ _ ⟨ma, mc, rfl, rfl⟩
      refine Zg2 qA ?_
      refine Zg3 ⟨fun _ => Imp.arr qV, ?_⟩
      refine Ziq rfl ?_
      refine Zh8 rfl (by kernel_rfl) (ho ma mc) rfl qT ?_
      rintro _ _ ⟨xa, xc, rfl, rfl⟩
      refine Zg2 qA ?_
      refine Zg3 ⟨(fun hh => Bool.noConfusion hh), ?_⟩
      first|refine Zim rfl (Zmm rfl) ?_|refine Zim rfl (Zar rfl) ?_
      refine Zim rfl (Zco rfl rfl) ?_
      refine Zim rfl (Zco rfl rfl) ?_
      first|refine Zim rfl (Za2 rfl) ?_|refine Zim rfl (Zas rfl) ?_
      first|refine Zim rfl (Zaz rfl) ?_|refine Zim rfl (Zas rfl) ?_
      refine Zik ?_
      refine Ct.o ?_
      refine Zgb ?_
      first|refine Zhg (Zat rfl) ?_|refine Zhg (Zar rfl) ?_
      first|refine Zhg (Zmk (b := 0) rfl rfl) ?_|refine Zhg (Zbs rfl rfl) ?_
      refine Zhm 38 rfl (decide_eq_true ((by decide))) ?_
      refine Zg3 ?_
      refine Ct.o ?_
      refine Zge rfl ?_
      refine Ct.o ?_
      refine Zgb ?_
      first|refine Zhg (Za2 rfl) ?_|refine Zhg (Zas rfl) ?_
      first|refine Zhg (Zaz rfl) ?_|refine Zhg (Zas rfl) ?_
      refine Zg3 ?_
      refine Ct.o ?_
      refine rx2 (Zhc rfl (Zg9 rfl (Zg7))) ?_
      exact ⟨_, ⟨none, 0, rfl, rfl⟩, (Imp.arr (N := L) qV).trans Imp.own_nil⟩
  · rw [eno (fun h => hpl h.2.2)]
    refine fn_x Tryz.func13 rfl rfl rfl Tryz.mixed (by kernel_rfl) ?_
    intro w0
    refine Ct.o ?_
    refine Zgb ?_
    refine Zh5 rfl ?_; intro b3
    refine Zh5 rfl ?_; intro b4
    first|refine Zhg (Za2 rfl) ?_|refine Zhg (Zas rfl) ?_
    first|refine Zhg (Zaz rfl) ?_|refine Zhg (Zas rfl) ?_
    refine Zg3 ?_
    refine Ct.o ?_
    refine Zgb ?_
    first|refine Zhg (Zaw rfl) ?_|refine Zhg (Zar rfl) ?_
    first|refine Zhg (Zcr rfl) ?_|refine Zhg (Zct) ?_|refine Zhg (Zcu rfl) ?_
    first|refine Zhg (Zmf (b := 28) rfl rfl) ?_|refine Zhg (Zbn rfl rfl) ?_
    refine Zhn 13 rfl (decide_eq_false (h28)) ?_
    first|refine Zhg (Zau rfl) ?_|refine Zhg (Zar rfl) ?_
    first|refine Zhi rfl ?_|refine Zhj rfl ?_|(refine Zhh rfl ?_; (first|refine Zhg (Zaw rfl) ?_|refine Zhg (Zar rfl) ?_))
    first|refine Zhi rfl ?_|refine Zhj rfl ?_|(refine Zhh rfl ?_; (first|refine Zhg (Zcr rfl) ?_|refine Zhg (Zct) ?_|refine Zhg (Zcu rfl) ?_))
    first|refine Zhi rfl ?_|refine Zhj rfl ?_|(refine Zhh rfl ?_; (first|refine Zhg (Zmh (b := 4124) rfl rfl) ?_|refine Zhg (Zbp rfl rfl) ?_))
    refine Zhn 17 rfl (decide_eq_false (hlong)) ?_
    first|refine Zhg (Zdz rfl rfl) ?_|refine Zhg (Zd0 rfl rfl) ?_|refine Zhg (Za8 rfl rfl) ?_|refine Zhg (Za9 rfl rfl) ?_|refine Zhg (Za6 rfl rfl) ?_|refine Zhg (Za7 rfl rfl) ?_
    refine Zg3 ?_
    refine Ct.o ?_
    refine Zgf rfl ?_
    refine Ct.o ?_
    refine Zgb ?_
    first|refine Zhr rfl qH qZ ?_|refine Zhq rfl qH qZ rfl ?_
    refine Zh8 rfl (by kernel_rfl) (headR_x p) rfl qT ?_
    rintro _ _ ⟨ha, hc, rfl, rfl⟩
    refine Zg2 qA ?_
    first|refine Zhg (Za2 rfl) ?_|refine Zhg (Zas rfl) ?_
    refine Zg3 ?_
    refine Ct.o ?_
    refine Zgb ?_
    first|refine Zhg (Zaw rfl) ?_|refine Zhg (Zar rfl) ?_
    refine Zhg (Zm0 (h := 12) rfl rfl (by omega)) ?_
    first|refine Zhg (Zaw rfl) ?_|refine Zhg (Zar rfl) ?_
    refine Zh8 rfl (by kernel_rfl) (he ha hc) rfl qT ?_
    rintro _ _ ⟨rfl, rfl⟩
    refine Zg2 qA ?_
    refine Zhn 24 rfl (decide_eq_false (hpl)) ?_
    refine Zhg (Zb0 rfl) ?_
    refine Zhm 25 rfl (rfl) ?_
    refine Zg3 ?_
    refine Ct.o ?_
    refine Zge rfl ?_
    refine Ct.o ?_
    refine Zgb ?_
    first|refine Zhg (Za2 rfl) ?_|refine Zhg (Zas rfl) ?_
    first|refine Zhg (Zaz rfl) ?_|refine Zhg (Zas rfl) ?_
    refine Zg3 ?_
    refine Ct.o ?_
    refine rx2 (Zhc rfl (Zg9 rfl (Zg7))) ?_
    exact ⟨_, ⟨none, 0, rfl, rfl⟩, (Imp.arr (N := L) qV).trans Imp.own_nil⟩
end Go.Sl

/- trystlaw12: what comes in, opened. -/
set_option linter.unusedVariables false
set_option linter.unusedSimpArgs false
set_option maxHeartbeats 2000000
namespace Go.Sl
open Go Go.Proofs Go.ChangeShapes Go.WideShapes Go.ChangeAt Go.RowKit
structure PlaceV where
  round_ : BitVec 64
  counter_ : BitVec 32
  page_ : BitVec 32
  version_ : BitVec 32
def PlaceV.cells (x : PlaceV) : List Value := [u64b x.round_] ++ ([u32b x.counter_] ++ ([u32b x.page_] ++ ([u32b x.version_])))
structure PlaceVOk (w : World) (x : PlaceV) : Prop where
  triv : True
theorem PlaceV.len {w : World} {x : PlaceV} (h : PlaceVOk w x) : x.cells.length = 4 := by
  simp [PlaceV.cells]
theorem PlaceV.c_round_ {w : World} {x : PlaceV} (h : PlaceVOk w x) : (x.cells.toArray)[0]? = some (u64b x.round_) := by
  simp [PlaceV.cells, List.getElem?_append, List.getElem?_cons]
theorem PlaceV.c_counter_ {w : World} {x : PlaceV} (h : PlaceVOk w x) : (x.cells.toArray)[1]? = some (u32b x.counter_) := by
  simp [PlaceV.cells, List.getElem?_append, List.getElem?_cons]
theorem PlaceV.c_page_ {w : World} {x : PlaceV} (h : PlaceVOk w x) : (x.cells.toArray)[2]? = some (u32b x.page_) := by
  simp [PlaceV.cells, List.getElem?_append, List.getElem?_cons]
theorem PlaceV.c_version_ {w : World} {x : PlaceV} (h : PlaceVOk w x) : (x.cells.toArray)[3]? = some (u32b x.version_) := by
  simp [PlaceV.cells, List.getElem?_append, List.getElem?_cons]
section
variable {H : Type} {enc : TypeId × Value → H} {w : World} {base : Nat} {spare : Nat → Bool} {held : Bool}
theorem open_PlaceV {n : Nat} {cs : List Value} {y : DataW H × List MemPlace} (h : DataW.trod enc Tryz.prog w base spare held n 27 cs = some y) (hs : Small Tryz.prog 27 y.1) : ∃ x : PlaceV, cs = x.cells ∧ PlaceVOk w x := by
  obtain ⟨xs, m, _, hx, hl, hn, hf⟩ := DataW.trod_struct Tryz.underlying27 h
  rw [show Tryz.prog.cellsOf 27 = 4 by kernel_rfl] at hl
  have hn : xs.length = 4 := hn
  have g : ∀ i (hi : i < xs.length), xs[i]? = some xs[i] := fun i hi => List.getElem?_eq_getElem hi
  rw [hx] at hs
  have e0 : DataW.trod enc Tryz.prog w base spare held m 24 ((cs.drop 0).take (Tryz.prog.cellsOf 24)) = some (xs[0]'(by omega)) := (hf 0 _ rfl).trans (g 0 (by omega))
  rw [show Tryz.prog.cellsOf 24 = 1 by kernel_rfl] at e0
  obtain ⟨n0, c0, _, wf0⟩ := DataW.trod_int Tryz.underlying24 e0
  obtain ⟨b0, hb0⟩ := u64_of wf0
  rw [hb0] at c0
  have e1 : DataW.trod enc Tryz.prog w base spare held m 25 ((cs.drop 1).take (Tryz.prog.cellsOf 25)) = some (xs[1]'(by omega)) := (hf 1 _ rfl).trans (g 1 (by omega))
  rw [show Tryz.prog.cellsOf 25 = 1 by kernel_rfl] at e1
  obtain ⟨n1, c1, _, wf1⟩ := DataW.trod_int Tryz.underlying25 e1
  obtain ⟨b1, hb1⟩ := u32_of wf1
  rw [hb1] at c1
  have e2 : DataW.trod enc Tryz.prog w base spare held m 25 ((cs.drop 2).take (Tryz.prog.cellsOf 25)) = some (xs[2]'(by omega)) := (hf 2 _ rfl).trans (g 2 (by omega))
  rw [show Tryz.prog.cellsOf 25 = 1 by kernel_rfl] at e2
  obtain ⟨n2, c2, _, wf2⟩ := DataW.trod_int Tryz.underlying25 e2
  obtain ⟨b2, hb2⟩ := u32_of wf2
  rw [hb2] at c2
  have e3 : DataW.trod enc Tryz.prog w base spare held m 25 ((cs.drop 3).take (Tryz.prog.cellsOf 25)) = some (xs[3]'(by omega)) := (hf 3 _ rfl).trans (g 3 (by omega))
  rw [show Tryz.prog.cellsOf 25 = 1 by kernel_rfl] at e3
  obtain ⟨n3, c3, _, wf3⟩ := DataW.trod_int Tryz.underlying25 e3
  obtain ⟨b3, hb3⟩ := u32_of wf3
  rw [hb3] at c3
  refine ⟨⟨b0, b1, b2, b3⟩, ?_, ⟨trivial⟩⟩
  have d0 : cs.drop 0 = (cs.drop 0).take 1 ++ cs.drop 1 := by
    have := (List.take_append_drop 1 (cs.drop 0)).symm
    rwa [List.drop_drop] at this
  have d1 : cs.drop 1 = (cs.drop 1).take 1 ++ cs.drop 2 := by
    have := (List.take_append_drop 1 (cs.drop 1)).symm
    rwa [List.drop_drop] at this
  have d2 : cs.drop 2 = (cs.drop 2).take 1 ++ cs.drop 3 := by
    have := (List.take_append_drop 1 (cs.drop 2)).symm
    rwa [List.drop_drop] at this
  have d3 : cs.drop 3 = (cs.drop 3).take 1 := by rw [List.take_of_length_le (by simp; omega)]
  show cs = _ ++ (_ ++ (_ ++ (_)))
  have dz : cs = cs.drop 0 := rfl
  rw [dz, d0, d1, d2, d3, c0, c1, c2, c3] <;> rfl
end
structure SheetV where
  key_ : List Byte
  place_ : PlaceV
  b_V : Value
  b_ : List Byte
def SheetV.cells (x : SheetV) : List Value := x.key_.map u8b ++ (x.place_.cells ++ ([x.b_V]))
structure SheetVOk (w : World) (x : SheetV) : Prop where
  triv : True
  key_ : x.key_.length = 32
  place_ : PlaceVOk w x.place_
  b_ : InB w x.b_V x.b_
theorem SheetV.len {w : World} {x : SheetV} (h : SheetVOk w x) : x.cells.length = 37 := by
  simp [SheetV.cells, h.key_, PlaceV.len h.place_]
theorem SheetV.c_key_ {w : World} {x : SheetV} (h : SheetVOk w x) : (x.cells.toArray).extract 0 32 = (x.key_.map u8b).toArray := by
  apply Array.ext'
  simp [SheetV.cells, List.extract_eq_take_drop, List.drop_append, List.take_append, List.take_of_length_le, h.key_, PlaceV.len h.place_]
theorem SheetV.c_place_ {w : World} {x : SheetV} (h : SheetVOk w x) : (x.cells.toArray).extract 32 36 = (x.place_.cells).toArray := by
  apply Array.ext'
  simp [SheetV.cells, List.extract_eq_take_drop, List.drop_append, List.take_append, List.take_of_length_le, h.key_, PlaceV.len h.place_]
theorem SheetV.c_b_ {w : World} {x : SheetV} (h : SheetVOk w x) : (x.cells.toArray)[36]? = some (x.b_V) := by
  simp [SheetV.cells, List.getElem?_append, List.getElem?_cons, h.key_, PlaceV.len h.place_]
section
variable {H : Type} {enc : TypeId × Value → H} {w : World} {base : Nat} {spare : Nat → Bool} {held : Bool}
theorem open_SheetV {n : Nat} {cs : List Value} {y : DataW H × List MemPlace} (h : DataW.trod enc Tryz.prog w base spare held n 30 cs = some y) (hs : Small Tryz.prog 30 y.1) : ∃ x : SheetV, cs = x.cells ∧ SheetVOk w x := by
  obtain ⟨xs, m, _, hx, hl, hn, hf⟩ := DataW.trod_struct Tryz.underlying30 h
  rw [show Tryz.prog.cellsOf 30 = 37 by kernel_rfl] at hl
  have hn : xs.length = 3 := hn
  have g : ∀ i (hi : i < xs.length), xs[i]? = some xs[i] := fun i hi => List.getElem?_eq_getElem hi
  rw [hx] at hs
  have e0 : DataW.trod enc Tryz.prog w base spare held m 23 ((cs.drop 0).take (Tryz.prog.cellsOf 23)) = some (xs[0]'(by omega)) := (hf 0 _ rfl).trans (g 0 (by omega))
  rw [show Tryz.prog.cellsOf 23 = 32 by kernel_rfl] at e0
  obtain ⟨l0, c0, ok0⟩ := open_ba e0
  have e1 : DataW.trod enc Tryz.prog w base spare held m 27 ((cs.drop 32).take (Tryz.prog.cellsOf 27)) = some (xs[1]'(by omega)) := (hf 1 _ rfl).trans (g 1 (by omega))
  rw [show Tryz.prog.cellsOf 27 = 4 by kernel_rfl] at e1
  have hs1 := Small.part (j := 1) Tryz.underlying30 hs rfl (by rw [List.getElem?_map, g 1 (by omega)]; rfl)
  obtain ⟨x1, c1, ok1⟩ := open_PlaceV e1 hs1
  have e2 : DataW.trod enc Tryz.prog w base spare held m 28 ((cs.drop 36).take (Tryz.prog.cellsOf 28)) = some (xs[2]'(by omega)) := (hf 2 _ rfl).trans (g 2 (by omega))
  rw [show Tryz.prog.cellsOf 28 = 1 by kernel_rfl] at e2
  have hs2 := Small.part (j := 2) Tryz.underlying30 hs rfl (by rw [List.getElem?_map, g 2 (by omega)]; rfl)
  obtain ⟨v2, l2, c2, ok2⟩ := open_bs Tryz.underlying28 Tryz.underlying5 (by kernel_rfl) (by kernel_rfl) e2 hs2
  refine ⟨⟨l0, x1, v2, l2⟩, ?_, ⟨trivial, ok0, ok1, ok2⟩⟩
  have d0 : cs.drop 0 = (cs.drop 0).take 32 ++ cs.drop 32 := by
    have := (List.take_append_drop 32 (cs.drop 0)).symm
    rwa [List.drop_drop] at this
  have d1 : cs.drop 32 = (cs.drop 32).take 4 ++ cs.drop 36 := by
    have := (List.take_append_drop 4 (cs.drop 32)).symm
    rwa [List.drop_drop] at this
  have d2 : cs.drop 36 = (cs.drop 36).take 1 := by rw [List.take_of_length_le (by simp; omega)]
  show cs = _ ++ (_ ++ (_))
  have dz : cs = cs.drop 0 := rfl
  rw [dz, d0, d1, d2, c0, c1, c2] <;> rfl
end
end Go.Sl

/- trystlaw12: the cells of a Sheet; works, walked. -/
set_option maxHeartbeats 4000000
set_option maxRecDepth 10000
set_option linter.unusedVariables false
set_option linter.unusedSimpArgs false
namespace Go.Sl
open Go Go.Proofs
attribute [local irreducible] cl pt own old pur ex all den denOps denS xOps xC cX CX xthen xblk xcut xloop xgo xng retX resX Calls PV Rd Con
def shc (key : List Byte) (p : Plc) (v : Value) : List Value := key.map u8b ++ ([u64b p.round, u32b p.counter, u32b p.page, u32b p.version] ++ [v])
section
variable {key : List Byte} {p : Plc} {v v' : Value}
theorem shc_len (hk : key.length = 32) : ((shc key p v).toArray).size = 37 := by simp [shc, hk]
theorem shc_key (hk : key.length = 32) : ((shc key p v).toArray).extract 0 32 = (key.map u8b).toArray := by
  apply Array.ext'; simp [shc, List.extract_eq_take_drop, List.drop_append, List.take_append, List.take_of_length_le, hk]
theorem shc_place (hk : key.length = 32) : ((shc key p v).toArray).extract 32 36 = plc p := by
  apply Array.ext'; simp [shc, List.extract_eq_take_drop, List.drop_append, List.take_append, List.take_of_length_le, hk]
theorem shc_round (hk : key.length = 32) : ((shc key p v).toArray)[32]? = some (u64b p.round) := by simp [shc, List.getElem?_append, List.getElem?_cons, hk]
theorem shc_counter (hk : key.length = 32) : ((shc key p v).toArray)[33]? = some (u32b p.counter) := by simp [shc, List.getElem?_append, List.getElem?_cons, hk]
theorem shc_b (hk : key.length = 32) : ((shc key p v).toArray)[36]? = some v := by simp [shc, List.getElem?_append, List.getElem?_cons, hk]
end
def PlaceV.plc (x : PlaceV) : Plc := ⟨x.round_, x.counter_, x.page_, x.version_⟩
theorem sheet_shc (x : SheetV) : x.cells = shc x.key_ x.place_.plc x.b_V := by unfold shc SheetV.cells PlaceV.cells PlaceV.plc; rfl
theorem place_plc (x : PlaceV) : x.cells.toArray = plc x.plc := by unfold PlaceV.cells PlaceV.plc; rfl
attribute [local irreducible] pgSealB pgOpenR pgHeadR
def k7 : List Byte := 7#8 :: List.replicate 31 0#8
def p1 : Plc := ⟨1#64, 2#32, 5#32, 1#32⟩
theorem p1_head : headB p1 = [1#8, 0#8, 0#8, 0#8, 0#8, 0#8, 0#8, 0#8, 2#8, 0#8, 0#8, 0#8] := by decide
theorem pgWorks_x : Con Tryz.prog 12 [] [] (fun r M => r = .bool true ∧ M = []) := by
  have e1 : pgSealR k7 p1 [1#8, 2#8, 3#8] = (pgSealB k7 p1 [1#8, 2#8, 3#8], 0) := rfl
  have e2 := pg_back k7 p1 [1#8, 2#8, 3#8] (by decide)
  have e3 := pgHead_seal k7 p1 [1#8, 2#8, 3#8]
  have e4 := pgSealB_len k7 p1 [1#8, 2#8, 3#8]
  have e5 := pgSeal_head k7 p1 [1#8, 2#8, 3#8]
  have hs := fun b => pgSeal_x (L := [cl b #[u8b 1#8, u8b 2#8, u8b 3#8] 5]) k7 rfl p1 (bs_full (l := [1#8, 2#8, 3#8]) (n := 3) qH rfl (by omega)) (by decide)
  rw [e1] at hs
  rw [p1_head] at e5
  generalize pgSealB k7 p1 [1#8, 2#8, 3#8] = B at e1 e2 e3 e4 e5 hs
  have e4 : B.length = 31 := e4
  have g0 : B[0]? = some 1#8 := by rw [show B[0]? = (B.take 12)[0]? by simp, e5]; rfl
  have g8 : B[8]? = some 2#8 := by rw [show B[8]? = (B.take 12)[8]? by simp, e5]; rfl
  have m0 : (B.map u8b)[0]? = some (u8b 1#8) := by rw [List.getElem?_map, g0]; rfl
  have m8 : (B.map u8b)[8]? = some (u8b 2#8) := by rw [List.getElem?_map, g8]; rfl
  dsimp only at hs
  refine fn_x Tryz.func12 rfl rfl rfl Tryz.mixed (by kernel_rfl) ?_
  intro w0
  refine Ct.o ?_
  refine Zgb ?_
  first|refine Zhg (Za0 rfl) ?_|refine Zhg (Zas rfl) ?_
  refine Zg3 ?_
  refine Ct.o ?_
  refine Zgb ?_
  refine Zhg (Zdm (cs := #[u64b 1#64, u32b 2#32, u32b 5#32, u32b 1#32]) (by kernel_rfl)) ?_
  refine Zhz (cs := #[u64b 0#64, u32b 0#32, u32b 0#32, u32b 0#32]) rfl ?_; intro b1
  first|refine Zhy rfl rfl qR qZ qN qZ ?_|refine Zhx rfl rfl qR qZ qN qZ rfl ?_
  refine Zg3 ?_
  refine Ct.o ?_
  refine Zgb ?_
  refine Zhg (Zdn (cs := (k7.map u8b).toArray) (by kernel_rfl)) ?_
  first|refine Zhr rfl qH qZ ?_|refine Zhq rfl qH qZ rfl ?_
  refine Zh7 (cs := #[u8b 1#8, u8b 2#8, u8b 3#8]) (by omega) (by omega) (by kernel_rfl) ?_; intro b13
  refine Zh8 rfl (by kernel_rfl) (hs b13) rfl qT ?_
  rintro _ _ ⟨sa, sc, rfl, rfl⟩
  refine Zg2 qA ?_
  first|refine Zhg (Zmm rfl) ?_|refine Zhg (Zar rfl) ?_
  refine Zhg (Zco rfl rfl) ?_
  refine Zhg (Zco rfl rfl) ?_
  first|refine Zhg (Za2 rfl) ?_|refine Zhg (Zas rfl) ?_
  first|refine Zhg (Zaz rfl) ?_|refine Zhg (Zas rfl) ?_
  refine Zg3 ?_
  refine Ct.o ?_
  refine Zgt (fun F w H => own_some (a := sa) qH (by omega) H) ?_
  rintro ⟨g, rfl⟩
  refine Ct.o ?_
  refine Zgb ?_
  first|refine Zhg (Zat rfl) ?_|refine Zhg (Zar rfl) ?_
  first|refine Zhg (Zmk (b := 0) rfl rfl) ?_|refine Zhg (Zbs rfl rfl) ?_
  refine Zhn 18 rfl (decide_eq_false ((fun h => h rfl))) ?_
  first|refine Zhg (Zau rfl) ?_|refine Zhg (Zar rfl) ?_
  first|refine Zhi rfl ?_|refine Zhj rfl ?_|(refine Zhh rfl ?_; (first|refine Zhg (Zaw rfl) ?_|refine Zhg (Zar rfl) ?_))
  first|refine Zhi rfl ?_|refine Zhj rfl ?_|(refine Zhh rfl ?_; (first|refine Zhg (Zcr rfl) ?_|refine Zhg (Zct) ?_|refine Zhg (Zcu rfl) ?_))
  first|refine Zhi rfl ?_|refine Zhj rfl ?_|(refine Zhh rfl ?_; (first|refine Zhg (Zmk (b := 31) rfl rfl) ?_|refine Zhg (Zbs rfl rfl) ?_))
  refine Zhn 22 rfl (decide_eq_false ((fun h => h e4))) ?_
  first|refine Zhg (Zdz rfl rfl) ?_|refine Zhg (Zd0 rfl rfl) ?_|refine Zhg (Za8 rfl rfl) ?_|refine Zhg (Za9 rfl rfl) ?_|refine Zhg (Za6 rfl rfl) ?_|refine Zhg (Za7 rfl rfl) ?_
  first|refine Zhg (Zau rfl) ?_|refine Zhg (Zar rfl) ?_
  first|refine Zhi rfl ?_|refine Zhj rfl ?_|(refine Zhh rfl ?_; (first|refine Zhg (Zaw rfl) ?_|refine Zhg (Zar rfl) ?_))
  first|refine Zhi rfl ?_|refine Zhj rfl ?_|(refine Zhh rfl ?_; (first|refine Zhg (Zl4 (n := 0) rfl rfl) ?_|refine Zhg (Zl1 (n := 0) rfl rfl) ?_))
  first|refine Zhi rfl ?_|refine Zhj rfl ?_|(refine Zhh rfl ?_; (refine Zff rfl (((Rd.own (n := B.length) qH).at0 (by omega) m0)) ?_))
  first|refine Zhi rfl ?_|refine Zhj rfl ?_|(refine Zhh rfl ?_; (refine Zhg (Zjl (x := 1#8) (y := 1#8) rfl rfl) ?_))
  refine Zhn 28 rfl (decide_eq_false ((fun h => h rfl))) ?_
  first|refine Zhg (Zdz rfl rfl) ?_|refine Zhg (Zd0 rfl rfl) ?_|refine Zhg (Za8 rfl rfl) ?_|refine Zhg (Za9 rfl rfl) ?_|refine Zhg (Za6 rfl rfl) ?_|refine Zhg (Za7 rfl rfl) ?_
  first|refine Zhg (Zau rfl) ?_|refine Zhg (Zar rfl) ?_
  first|refine Zhi rfl ?_|refine Zhj rfl ?_|(refine Zhh rfl ?_; (first|refine Zhg (Zaw rfl) ?_|refine Zhg (Zar rfl) ?_))
  first|refine Zhi rfl ?_|refine Zhj rfl ?_|(refine Zhh rfl ?_; (first|refine Zhg (Zl4 (n := 8) rfl rfl) ?_|refine Zhg (Zl1 (n := 8) rfl rfl) ?_))
  first|refine Zhi rfl ?_|refine Zhj rfl ?_|(refine Zhh rfl ?_; (refine Zff rfl (((Rd.own (n := B.length) qH).at0 (by omega) m8)) ?_))
  first|refine Zhi rfl ?_|refine Zhj rfl ?_|(refine Zhh rfl ?_; (refine Zhg (Zjl (x := 2#8) (y := 2#8) rfl rfl) ?_))
  refine Zhn 34 rfl (decide_eq_false ((fun h => h rfl))) ?_
  first|refine Zhg (Zdz rfl rfl) ?_|refine Zhg (Zd0 rfl rfl) ?_|refine Zhg (Za8 rfl rfl) ?_|refine Zhg (Za9 rfl rfl) ?_|refine Zhg (Za6 rfl rfl) ?_|refine Zhg (Za7 rfl rfl) ?_
  refine Zg3 ?_
  refine Ct.o ?_
  refine Zgf rfl ?_
  refine Ct.o ?_
  have ho := pgOpen_x (L := [own 5 1 (.slice (some ⟨g, 0, none⟩) B.length sc) B.length (B.map u8b)]) k7 rfl p1 (Bs.own .here) (by omega)
  rw [e2] at ho
  dsimp only at ho
  refine Ct.o ?_
  refine Zgb ?_
  refine Zhg (Zdn (cs := (k7.map u8b).toArray) (by kernel_rfl)) ?_
  first|refine Zhr rfl qH qZ ?_|refine Zhq rfl qH qZ rfl ?_
  first|refine Zhg (Zaw rfl) ?_|refine Zhg (Zar rfl) ?_
  refine Zh8 rfl (by kernel_rfl) (ho) rfl qT ?_
  rintro _ _ ⟨oa, oc, rfl, rfl⟩
  refine Zg2 qA ?_
  first|refine Zhg (Zmm rfl) ?_|refine Zhg (Zar rfl) ?_
  refine Zhg (Zco rfl rfl) ?_
  refine Zhg (Zco rfl rfl) ?_
  first|refine Zhg (Za2 rfl) ?_|refine Zhg (Zas rfl) ?_
  first|refine Zhg (Zaz rfl) ?_|refine Zhg (Zas rfl) ?_
  refine Zg3 ?_
  refine Ct.o ?_
  have hh := pgHead_x (L := [own 5 1 (.slice (some ⟨g, 0, none⟩) B.length sc) B.length (B.map u8b)]) (Bs.own .here) (by omega)
  rw [e3] at hh
  dsimp only at hh
  refine Ct.o ?_
  refine Zgb ?_
  first|refine Zhg (Zaw rfl) ?_|refine Zhg (Zar rfl) ?_
  refine Zh8 rfl (by kernel_rfl) (hh) rfl qT ?_
  rintro _ _ ⟨rfl, rfl⟩
  refine Zg2 qA ?_
  first|refine Zhg (Zmm rfl) ?_|refine Zhg (Zar rfl) ?_
  refine Zhg (Zco rfl rfl) ?_
  refine Zhg (Zco rfl rfl) ?_
  refine Zhg (Zco rfl rfl) ?_
  first|refine Zhg (Zaz rfl) ?_|refine Zhg (Zas rfl) ?_
  first|refine Zhg (Zaz rfl) ?_|refine Zhg (Zas rfl) ?_
  first|refine Zhg (Zaz rfl) ?_|refine Zhg (Zas rfl) ?_
  refine Zg3 ?_
  refine Ct.o ?_
  refine Zgb ?_
  first|refine Zhg (Zat rfl) ?_|refine Zhg (Zar rfl) ?_
  first|refine Zhg (Zmj (b := 0) rfl rfl) ?_|refine Zhg (Zbr rfl rfl) ?_
  refine Zhm 50 rfl (rfl) ?_
  first|refine Zhg (Zau rfl) ?_|refine Zhg (Zar rfl) ?_
  first|refine Zhi rfl ?_|refine Zhj rfl ?_|(refine Zhh rfl ?_; (first|refine Zhg (Zaw rfl) ?_|refine Zhg (Zar rfl) ?_))
  first|refine Zhi rfl ?_|refine Zhj rfl ?_|(refine Zhh rfl ?_; (refine Zh7 (cs := #[u8b 1#8, u8b 2#8, u8b 3#8]) (by omega) (by omega) (by kernel_rfl) ?_; intro b53))
  first|refine Zhi rfl ?_|refine Zhj rfl ?_|(refine Zhh rfl ?_; (refine Zh8 rfl (by kernel_rfl) (eqBytes_x (L := [cl b53 #[u8b 1#8, u8b 2#8, u8b 3#8] 5, own 5 1 (.slice oa 3 oc) 3 (([1#8, 2#8, 3#8] : List Byte).map u8b)]) (a := [1#8, 2#8, 3#8]) (b := [1#8, 2#8, 3#8]) (Bs.own qH) (bs_full (l := [1#8, 2#8, 3#8]) (n := 3) qH rfl (by omega))) rfl qT ?_); (rintro _ _ ⟨rfl, rfl⟩); (refine Zg2 qA ?_))
  refine Zhm 54 rfl (decide_eq_true (rfl)) ?_
  first|refine Zhg (Zdz rfl rfl) ?_|refine Zhg (Zd0 rfl rfl) ?_|refine Zhg (Za8 rfl rfl) ?_|refine Zhg (Za9 rfl rfl) ?_|refine Zhg (Za6 rfl rfl) ?_|refine Zhg (Za7 rfl rfl) ?_
  first|refine Zhg (Zau rfl) ?_|refine Zhg (Zar rfl) ?_
  first|refine Zhi rfl ?_|refine Zhj rfl ?_|(refine Zhh rfl ?_; (first|refine Zhg (Zat rfl) ?_|refine Zhg (Zar rfl) ?_))
  first|refine Zhi rfl ?_|refine Zhj rfl ?_|(refine Zhh rfl ?_; (refine Zhg (Zln (x := 1#64) (y := 1#64) rfl rfl) ?_))
  refine Zhm 58 rfl (decide_eq_true (rfl)) ?_
  first|refine Zhg (Zdz rfl rfl) ?_|refine Zhg (Zd0 rfl rfl) ?_|refine Zhg (Za8 rfl rfl) ?_|refine Zhg (Za9 rfl rfl) ?_|refine Zhg (Za6 rfl rfl) ?_|refine Zhg (Za7 rfl rfl) ?_
  first|refine Zhg (Zau rfl) ?_|refine Zhg (Zar rfl) ?_
  first|refine Zhi rfl ?_|refine Zhj rfl ?_|(refine Zhh rfl ?_; (first|refine Zhg (Zat rfl) ?_|refine Zhg (Zar rfl) ?_))
  first|refine Zhi rfl ?_|refine Zhj rfl ?_|(refine Zhh rfl ?_; (refine Zhg (Zky (x := 2#32) (y := 2#32) rfl rfl) ?_))
  refine Zhm 62 rfl (decide_eq_true (rfl)) ?_
  first|refine Zhg (Zdz rfl rfl) ?_|refine Zhg (Zd0 rfl rfl) ?_|refine Zhg (Za8 rfl rfl) ?_|refine Zhg (Za9 rfl rfl) ?_|refine Zhg (Za6 rfl rfl) ?_|refine Zhg (Za7 rfl rfl) ?_
  first|refine Zhg (Zau rfl) ?_|refine Zhg (Zar rfl) ?_
  first|refine Zhi rfl ?_|refine Zhj rfl ?_|(refine Zhh rfl ?_; (first|refine Zhg (Zat rfl) ?_|refine Zhg (Zar rfl) ?_))
  first|refine Zhi rfl ?_|refine Zhj rfl ?_|(refine Zhh rfl ?_; (first|refine Zhg (Zmj (b := 0) rfl rfl) ?_|refine Zhg (Zbr rfl rfl) ?_))
  refine Zhm 66 rfl (rfl) ?_
  first|refine Zhg (Zdz rfl rfl) ?_|refine Zhg (Zd0 rfl rfl) ?_|refine Zhg (Za8 rfl rfl) ?_|refine Zhg (Za9 rfl rfl) ?_|refine Zhg (Za6 rfl rfl) ?_|refine Zhg (Za7 rfl rfl) ?_
  first|refine Zhg (Za0 rfl) ?_|refine Zhg (Zas rfl) ?_
  refine Zg3 ?_
  refine Ct.o ?_
  refine rx1 (Zha rfl (Zg7)) ?_
  exact ⟨_, ⟨rfl, rfl⟩, qI⟩
end Go.Sl

/- append that keeps what stood there: in place, or beside it. -/
set_option linter.unusedVariables false
set_option linter.unusedSimpArgs false
namespace Go.Sl
open Go
theorem run_append2 {P : Program} {w w0 : World} {L : List Asrt} {ty T E : TypeId} {size by' n m T' cap : Nat} {a : Option Addr} {z xv : Value} {xs news : List Value} {E2 : Nat} [hs : TySlice P T E] [hi : TyI P E size by' z]
    (hd : P.underlying T' = some (.slice E2)) (hz : z.cells.size = size)
    (hn : (Builtin.lenOf xv).run P w = .ok m w) (hr : ∀ d, (Builtin.firstCells size m xv).run P { w with drawn := d } = .ok news.toArray { w with drawn := d })
    (hl : news.length = m * size) (h1 : news.all oneC = true) (hby : by' ≠ 0) (hb : (n + m) * by' ≤ 140737488355328) (hm0 : 0 < m)
    (H : St w0 w (own E size (.slice a n cap) n xs :: L)) :
    ∃ a' cap' w', (Builtin.append_ #[T, T'] ty #[.slice a n cap, xv]).run P w = .ok (.slice a' (n + m) cap') w' ∧
      ((a' = a ∧ cap' = cap ∧ St w0 w' (own E size (.slice a (n + m) cap) (n + m) (xs ++ news) :: L)) ∨ St w0 w' (own E size (.slice a' (n + m) cap') (n + m) (xs ++ news) :: own E size (.slice a n cap) n xs :: L)) := by
  have key : ∀ (hxl : xs.length = n * size) (ho : ∀ d, (Builtin.firstCells size n (.slice a n cap)).run P { w with drawn := d } = .ok xs.toArray { w with drawn := d }) (hgrow : cap < n + m),
      ∃ a' cap' w', (Builtin.append_ #[T, T'] ty #[.slice a n cap, xv]).run P w = .ok (.slice a' (n + m) cap') w' ∧ St w0 w' (own E size (.slice a' (n + m) cap') (n + m) (xs ++ news) :: own E size (.slice a n cap) n xs :: L) := by
    intro hxl ho hgrow
    obtain ⟨c', dr, hc1, hc2, hrun⟩ := run_append_grow (ty := ty) (T := T) (E := E) (z := z) hd hn hr ho hby hgrow hb
    refine ⟨_, _, _, hrun, ?_⟩
    have Hn := H.alloc (.cells (xs.toArray ++ news.toArray ++ Builtin.zeroCells z.cells (c' - (n + m))) E (0, 0))
    refine St.own_mk (cur := xs.toArray ++ news.toArray ++ Builtin.zeroCells z.cells (c' - (n + m))) ⟨Hn.os, Hn.tape, Hn.output, Hn.size, Hn.sat⟩ hc1 hc2 ?_ ?_
    · simp only [Array.size_append, size_zeroC, hz, List.size_toArray, hxl, hl]
      rw [← Nat.add_mul, ← Nat.add_mul]; congr 1; omega
    · simp only [Array.toList_append]
      rw [List.take_append_of_le_length (by simp [hxl, hl, Nat.add_mul]), List.take_of_length_le (by simp [hxl, hl, Nat.add_mul])]
  rcases H.own_get with ⟨hv, rfl, rfl, Hl⟩|⟨g, cap', cur, hv, h2, h3, h4, h5, h6, Hl⟩
  · simp only [Value.slice.injEq] at hv
    obtain ⟨rfl, _, rfl⟩ := hv
    obtain ⟨a', c', w', h, h'⟩ := key (by simp) (fun d => rfl) (by omega)
    exact ⟨a', c', w', h, .inr h'⟩
  · simp only [Value.slice.injEq] at hv
    obtain ⟨rfl, _, rfl⟩ := hv
    by_cases hroom : n + m ≤ cap
    · refine ⟨_, _, _, run_append_room (ty := ty) hd hn (hr w.drawn) hl h1 hroom Hl.cl_get h4, .inl ⟨rfl, rfl, ?_⟩⟩
      have Hn := Hl.set (.cells (wr cur (n * size) news) E (0, 0))
      have hfit : n * size + news.length ≤ cur.size := by rw [hl, h4, ← Nat.add_mul]; exact Nat.mul_le_mul_right _ hroom
      refine St.own_mk (cur := wr cur (n * size) news) Hn hroom h3 (by rw [wr_size, h4]) ?_
      rw [wr_toList _ _ _ hfit, h5, List.take_append_of_le_length (by simp [h6, hl, Nat.add_mul]), List.take_of_length_le (by simp [h6, hl, Nat.add_mul])]
    · obtain ⟨a', c', w', h, h'⟩ := key h6 (fun d => by
        have hg : ({ w with drawn := d } : World).heap[g]? = some (.cells cur E (0, 0)) := Hl.cl_get
        show (loadCells ⟨g, 0, none⟩ (n * size)).run P _ = _
        rw [run_loadCells hg 0 (n * size) (by rw [h4]; have := Nat.mul_le_mul_right size h2; omega)]
        congr 1
        apply Array.ext'
        rw [Array.toList_extract]
        simp [List.extract, h5]) (by omega)
      exact ⟨a', c', w', h, .inr h'⟩
theorem Znp {P : Program} {w0 : World} {ops : Array Oper} {dst : Option Nat} {ty T E : TypeId} {pos : String} {after : Array Edge} {rest : List Oper} {ρ : Env} {K : XK} {M M' : List Asrt} {x y : Operand} {size by' n m T' E' cap : Nat} {a : Option Addr} {z sv : Value} {xs news : List Value} [hs : TySlice P T E] [hi : TyI P E size by' z] [ht : TySlice P T' E']
    (hx : ev ρ x = .slice a n cap) (hy : ev ρ y = sv) (hm : Has M (own E size (.slice a n cap) n xs) M') (hsl : Rd M size sv m news)
    (h1 : news.all oneC = true) (hby : by' ≠ 0) (hb : (n + m) * by' ≤ 140737488355328) (hm0 : 0 < m)
    (k1 : xOps P w0 ops rest (put ρ dst (.slice a (n + m) cap)) (own E size (.slice a (n + m) cap) (n + m) (xs ++ news) :: M') K)
    (k2 : ∀ a' c', xOps P w0 ops rest (put ρ dst (.slice a' (n + m) c')) (own E size (.slice a' (n + m) c') (n + m) (xs ++ news) :: own E size (.slice a n cap) n xs :: M') K) :
    xOps P w0 ops (⟨dst, .call { callee := .builtin .append, args := #[x, y], argTypes := #[T, T'] }, ty, pos, after, none⟩ :: rest) ρ M K := by
  intro F w H
  have hsl := hsl _ _ _ H
  refine Zcy ?_
  obtain ⟨a', c', w', hr, H'⟩ := run_append2 (P := P) (T := T) (E := E) (ty := ty) (xv := sv) (m := m) (news := news) ht.h hi.zs hsl.lenOf (fun d => by
    have := (hsl.drawn d).first (P := P) m (Nat.le_refl _)
    rwa [← hsl.1, List.take_length] at this) hsl.1 h1 hby hb hm0 (H.pick (.there hm))
  have : (execOp (ev ρ) ⟨dst, .call { callee := .builtin .append, args := #[x, y], argTypes := #[T, T'] }, ty, pos, after, none⟩).run P w = .ok (.value (.slice a' (n + m) c')) w' := by
    refine op_run_value ?_
    simp only [List.map_toArray, List.map_cons, List.map_nil, hx, hy]
    exact hr
  rw [this]
  rcases H' with ⟨rfl, rfl, H'⟩|H'
  · exact k1 F w' H'.swap
  · refine k2 a' c' F w' ?_
    exact H'.pick (.there (.there .here))
theorem Znq {P : Program} {w0 : World} {ops : Array Oper} {dst : Option Nat} {ty T E : TypeId} {pos : String} {after : Array Edge} {rest : List Oper} {ρ : Env} {K : XK} {M M' : List Asrt} {x y : Operand} {size by' n m T' E' cap : Nat} {a : Option Addr} {z sv : Value} {xs news : List Value} [hs : TySlice P T E] [hi : TyI P E size by' z] [ht : TySlice P T' E']
    (hx : ev ρ x = .slice a n cap) (hy : ev ρ y = sv) (hm : Has M (own E size (.slice a n cap) n xs) M') (hsl : Rd M size sv m news)
    (h1 : news.all oneC = true) (hby : by' ≠ 0) (hb : (n + m) * by' ≤ 140737488355328) (hm0 : 0 < m)
    (k : ∀ (s : Bool) a' c', (s = true → a' = a ∧ c' = cap) → xOps P w0 ops rest (put ρ dst (.slice a' (n + m) c')) (own E size (.slice a' (n + m) c') (n + m) (xs ++ news) :: all (if s then [] else [own E size (.slice a n cap) n xs]) :: M') K) :
    xOps P w0 ops (⟨dst, .call { callee := .builtin .append, args := #[x, y], argTypes := #[T, T'] }, ty, pos, after, none⟩ :: rest) ρ M K := by
  refine Znp hx hy hm hsl h1 hby hb hm0 ?_ ?_
  · intro F w H
    exact k true a cap (fun _ => ⟨rfl, rfl⟩) F w (H.enx (Imp.cons (Imp.app (L := []))))
  · intro a' c' F w H
    exact k false a' c' (fun h => Bool.noConfusion h) F w (H.enx (Imp.cons (Imp.app (L := [own E size (.slice a n cap) n xs]))))
theorem own_take {E n m c : Nat} {a : Option Addr} {xs : List Value} {M : List Asrt} (h : m ≤ n) : Imp (own E 1 (.slice a n c) n xs :: M) (own E 1 (.slice a m c) m (xs.take m) :: M) :=
  Imp.head fun h' hg => by
    obtain ⟨hl, hg⟩ := hg
    refine ⟨by simp; omega, ?_⟩
    rcases hg with ⟨hv, rfl⟩|⟨g, cap, cur, hv, hg, h1, h2, h3, h4⟩
    · simp only [Value.slice.injEq] at hv
      obtain ⟨rfl, _, rfl⟩ := hv
      obtain rfl : m = 0 := by omega
      exact .inl ⟨rfl, rfl⟩
    · simp only [Value.slice.injEq] at hv
      obtain ⟨rfl, _, rfl⟩ := hv
      exact .inr ⟨g, c, cur, rfl, hg, by omega, h2, h3, by rw [← h4, Nat.mul_one, Nat.mul_one, List.take_take, Nat.min_eq_left h]⟩
theorem Znr {P : Program} {ρ : Env} {x y : Operand} {S i : Nat} {k : IntKind} {s : ByteArray} {b : Byte} (hS : P.underlying S = some .string) (hx : ev ρ x = .string s) (hy : ev ρ y = .int k (i : Int)) (hb : s[i]? = some (UInt8.ofBitVec b)) : PV P (.index S x y) ρ (u8b b) := by
  intro oo w ho; unfold execOp; rw [ho]; refine op_run_value ?_; rw [hx, hy]
  unfold Instr.index
  simp only [asIntOf, pure_bind]
  rw [run_bind P _ _ w w _ (run_under hS)]
  simp only []
  rw [if_pos (by omega), Int.toNat_natCast, hb]
  rfl
theorem str_at {s : ByteArray} {b : List Byte} (hb : s.data.toList = b.map (fun x => UInt8.ofBitVec x)) {i : Nat} (hi : i < b.length) : s[i]? = some (UInt8.ofBitVec b[i]) := by
  have hsz : s.size = b.length := by show s.data.size = _; rw [← Array.length_toList, hb, List.length_map]
  rw [getElem?_pos s i (by omega)]
  congr 1
  show s.data[i]'(by show i < s.size; omega) = _
  rw [← Array.getElem_toList]
  simp only [hb, List.getElem_map]
end Go.Sl

/- the statements' small helpers: slices that do not share (Apart). -/
set_option maxHeartbeats 4000000
set_option maxRecDepth 10000
set_option linter.unusedVariables false
set_option linter.unusedSimpArgs false
namespace Go.Sl
open Go Go.Proofs
attribute [local irreducible] cl pt own old pur ex all den denOps denS xOps xC cX CX xthen xblk xcut xloop xgo xng retX resX Calls PV Rd Con
abbrev ni (n : Nat) : Value := .int .i64 (n : Int)
def mkB (i j : Nat) : Byte := BitVec.ofInt 8 ((i * 31 + j * 7 + 1 : Nat) : Int)
theorem mark_x (i j : Nat) (hi : i ≤ 1048576) (hj : j ≤ 281474976710656) : Con Tryz.prog 25 [ni i, ni j] [] (fun r M => r = u8b (mkB i j) ∧ M = []) := by
  refine fn_x Tryz.func25 rfl rfl rfl Tryz.mixed (by kernel_rfl) ?_
  intro w0
  refine Ct.o ?_
  refine Zgb ?_
  first|refine Zhg (Zaz rfl) ?_|refine Zhg (Zas rfl) ?_
  refine Zg3 ?_
  refine Ct.o ?_
  refine Zgb ?_
  first|refine Zhg (Zat rfl) ?_|refine Zhg (Zar rfl) ?_
  first|refine Zhg (Zmc (b := 31) rfl rfl) ?_|refine Zhg (Zbi rfl rfl) ?_
  first|refine Zhg (Zat rfl) ?_|refine Zhg (Zar rfl) ?_
  first|refine Zhg (Zmc (b := 7) rfl rfl) ?_|refine Zhg (Zbi rfl rfl) ?_
  first|refine Zhg (Zma rfl rfl) ?_|refine Zhg (Zbg rfl rfl) ?_
  first|refine Zhg (Zma (b := 1) rfl rfl) ?_|refine Zhg (Zbg rfl rfl) ?_
  refine Zhg (Zjs rfl) ?_
  first|refine Zhg (Zaz rfl) ?_|refine Zhg (Zas rfl) ?_
  refine Zg3 ?_
  refine Ct.o ?_
  refine rx1 (Zg9 rfl (Zg7)) ?_
  exact ⟨_, ⟨rfl, rfl⟩, by exact Imp.arr (by repeat (first|exact Arr.nil|exact Arr.stop|refine Arr.cons (by repeat constructor) ?_|refine Arr.skip ?_))⟩
abbrev Part := Option Addr × Nat × List Byte
def vP (p : Part) : Value := .slice p.1 p.2.2.length p.2.1
def ownP (p : Part) : Asrt := own 5 1 (vP p) p.2.2.length (p.2.2.map u8b)
def MkUp (i : Nat) (l : List Byte) (n : Nat) : Prop := ∀ j, j < n → l[j]? = some (mkB i j)
theorem MkUp.set {i j : Nat} {l : List Byte} (h : MkUp i l j) (hj : j < l.length) : MkUp i (l.set j (mkB i j)) (j + 1) := by
  intro k hk
  by_cases e : j = k
  · subst e; rw [List.getElem?_set_self hj]
  · rw [List.getElem?_set_ne e]; exact h k (by omega)
theorem MkUp.snoc {i : Nat} {l : List Byte} (h : MkUp i l l.length) : MkUp i (l ++ [mkB i l.length]) (l.length + 1) := by
  intro k hk
  by_cases e : k = l.length
  · subst e; rw [List.getElem?_append_right (Nat.le_refl _), Nat.sub_self]; rfl
  · rw [List.getElem?_append_left (by omega)]; exact h k (by omega)
theorem MkUp.at {i j n : Nat} {l : List Byte} (h : MkUp i l n) (hj : j < n) (hl : j < l.length) : l[j] = mkB i j := by
  have := h j hj
  rw [List.getElem?_eq_getElem hl] at this
  exact Option.some.inj this
def remP (s : Bool) (p : Part) : Asrt := all (if s then [] else [ownP p])
abbrev Trip := Part × Part × Bool
def A2 (t : Trip) : Asrt := all [ownP t.2.1, remP t.2.2 t.1]
/-- What a part and its longer heir are to each other. -/
def Heir (i k : Nat) (p q : Part) (s : Bool) : Prop := MkUp i p.2.2 p.2.2.length ∧ MkUp i q.2.2 q.2.2.length ∧ q.2.2.length = p.2.2.length + k ∧ (s = true → q.1 = p.1 ∧ q.2.1 = p.2.1 ∧ q.2.2.take p.2.2.length = p.2.2)
theorem ownP_bs {M M' : List Asrt} {p : Part} (hm : Has M (ownP p) M') : Bs M (vP p) p.2.2 := Bs.own (E := 5) hm
theorem A2_q {t : Trip} {M : List Asrt} : Bs (A2 t :: M) (vP t.2.1) t.2.1.2.2 :=
  (ownP_bs (p := t.2.1) (M := ownP t.2.1 :: remP t.2.2 t.1 :: M) .here).imp (Imp.unapp (L := [ownP t.2.1, remP t.2.2 t.1]))
theorem A2_p {i k : Nat} {t : Trip} {M : List Asrt} (h : Heir i k t.1 t.2.1 t.2.2) : Bs (A2 t :: M) (vP t.1) t.1.2.2 := by
  obtain ⟨p, q, s⟩ := t
  have h0 : Imp (A2 (p, q, s) :: M) (ownP q :: remP s p :: M) := Imp.unapp (L := [ownP q, remP s p])
  cases s with
  | false =>
    have h1 : Imp (A2 (p, q, false) :: M) (ownP q :: ownP p :: M) := h0.trans (Imp.cons (Imp.unapp (L := [ownP p])))
    exact (ownP_bs (.there .here)).imp h1
  | true =>
    obtain ⟨_, _, hl, h3⟩ := h
    obtain ⟨ha, hc, ht⟩ := h3 rfl
    dsimp only at ha hc ht hl
    have h1 : Imp (A2 (p, q, true) :: M) (ownP p :: remP true p :: M) := by
      refine h0.trans ?_
      have := own_take (E := 5) (n := q.2.2.length) (m := p.2.2.length) (c := q.2.1) (a := q.1) (xs := q.2.2.map u8b) (M := remP true p :: M) (by omega)
      rw [← List.map_take, ht, ha, hc] at this
      have e : ownP q = own 5 1 (.slice p.1 q.2.2.length p.2.1) q.2.2.length (q.2.2.map u8b) := by unfold ownP vP; rw [ha, hc]
      rw [e]
      exact this
    exact (ownP_bs .here).imp h1
theorem star_bs {α : Type} {A : α → Asrt} {l : List α} {x : α} {v : Value} {b : List Byte} (hx : x ∈ l) (h : ∀ R, Bs (A x :: R) v b) {M M' : List Asrt} (hm : Has M (star A l) M') : Bs M v b := by
  obtain ⟨R, hR⟩ := star_has (A := A) hx hm
  exact (h R).imp hR
end Go.Sl

/- Apart: slices that do not share, walked. -/
set_option maxHeartbeats 4000000
set_option maxRecDepth 10000
set_option linter.unusedVariables false
set_option linter.unusedSimpArgs false
namespace Go.Sl
open Go Go.Proofs
attribute [local irreducible] cl pt own old pur ex all den denOps denS xOps xC cX CX xthen xblk xcut xloop xgo xng retX resX Calls PV Rd Con
theorem vP_at {ps : List Part} {qs : List Part} {i : Nat} (hi : i < qs.length) (h : qs.map vP = ps.map vP) {a : Option Addr} {c : Nat} {l : List Byte} (hq : (a, c, l) = qs[i]) : (ps.map vP)[i]? = some (.slice a l.length c) := by
  rw [← h, List.getElem?_map, List.getElem?_eq_getElem hi, ← hq]; rfl
theorem vP_len {ps : List Part} {i n c : Nat} {a : Option Addr} (h : (ps.map vP)[i]? = some (.slice a n c)) {B : Nat} (hb : ∀ p ∈ ps, p.2.2.length ≤ B) : n ≤ B := by
  rw [List.getElem?_map] at h
  obtain ⟨p, hp, h⟩ := Option.map_eq_some_iff.mp h
  simp only [vP, Value.slice.injEq] at h
  have := hb p (List.mem_of_getElem? hp)
  omega
attribute [local irreducible] mkB
theorem apart_x {L : List Asrt} {va : Option Addr} {vc N : Nat} (ps : List Part) (hN : ps.length = N) (hNl : N ≤ 1048576) (hlen : ∀ p ∈ ps, p.2.2.length ≤ 140737488355000) (h : Rd L 1 (.slice va N vc) N (ps.map vP)) :
    Con Tryz.prog 11 [.slice va N vc] (star ownP ps :: L) (fun r M => r = .bool true ∧ L = M) := by
  refine fn_x Tryz.func11 rfl rfl rfl Tryz.mixed (by kernel_rfl) ?_
  intro w0
  refine Ct.o ?_
  refine Zgb ?_
  first|refine Zhg (Za0 rfl) ?_|refine Zhg (Zas rfl) ?_
  refine Zg3 ?_
  refine Ct.o ?_
  refine Zgb ?_
  first|refine Zhg (Zaz rfl) ?_|refine Zhg (Zas rfl) ?_
  refine Zg3 ?_
  refine Ct.o ?_
  refine Zgo [(3, 4), (11, 34)] (by kernel_rfl) (fun s : Nat × List Part => s.1 ≤ N ∧ s.2.map vP = ps.map vP ∧ ∀ k p, k < s.1 → s.2[k]? = some p → MkUp k p.2.2 p.2.2.length) (fun s => star ownP s.2 :: L) (fun s => [(3, ni s.1)]) (fun s => N - s.1) (0, ps) ⟨Nat.zero_le _, rfl, fun k p h => absurd h (Nat.not_lt_zero _)⟩ qI ⟨rfl, trivial⟩ ?_
  rintro ⟨i, qs⟩ u ⟨hi, hqv, hqm⟩
  dsimp only at hi hqv hqm ⊢
  have hql : qs.length = N := by rw [← List.length_map (f := vP), hqv, List.length_map, hN]
  refine Ct.o ?_
  refine Zgb ?_
  first|refine Zhg (Zat rfl) ?_|refine Zhg (Zar rfl) ?_
  first|refine Zhg (Zaw rfl) ?_|refine Zhg (Zar rfl) ?_
  first|refine Zhg (Zcr rfl) ?_|refine Zhg (Zct) ?_|refine Zhg (Zcu rfl) ?_
  first|refine Zhg (Zmf rfl rfl) ?_|refine Zhg (Zbn rfl rfl) ?_
  refine Zg3 ?_
  refine Ct.o ?_
  refine Zgg rfl (fun hB => ?_) (fun hB => ?_)
  · have hiq : i < qs.length := by omega
    obtain ⟨⟨qa, qc, l⟩, hq⟩ : ∃ p, p = qs[i] := ⟨_, rfl⟩
    have hgi := vP_at hiq hqv hq
    have hll := vP_len hgi hlen
    refine Zgt (fun F w H => (h.imp qI).someAt (by omega) H) ?_
    rintro ⟨a1, a2, rfl⟩
    refine Zgp (star_at hiq) ?_
    rw [← hq]
    refine Ct.o ?_
    refine Zgb ?_
    first|refine Zhg (Zaz rfl) ?_|refine Zhg (Zas rfl) ?_
    refine Zg3 ?_
    refine Ct.o ?_
    refine Zgo [(4, 4), (17, 34)] (by kernel_rfl) (fun s : Nat × List Byte => s.1 ≤ l.length ∧ s.2.length = l.length ∧ MkUp i s.2 s.1) (fun s => own 5 1 (.slice qa l.length qc) l.length (s.2.map u8b) :: star ownP (qs.eraseIdx i) :: L) (fun s => [(4, ni s.1)]) (fun s => l.length - s.1) (0, l) ⟨Nat.zero_le _, rfl, fun k h => absurd h (Nat.not_lt_zero _)⟩ (Imp.refl _) ⟨rfl, trivial⟩ ?_
    rintro ⟨j, x⟩ u2 ⟨hj, hxl, hxm⟩
    dsimp only at hj hxl hxm ⊢
    refine Ct.o ?_
    refine Zgb ?_
    first|refine Zhg (Zat rfl) ?_|refine Zhg (Zar rfl) ?_
    first|refine Zhg (Zaw rfl) ?_|refine Zhg (Zar rfl) ?_
    first|refine Zhg (Zat rfl) ?_|refine Zhg (Zar rfl) ?_
    first|refine Zhg (Zl4 rfl rfl) ?_|refine Zhg (Zl1 rfl rfl) ?_
    refine Zff rfl ((h.imp qI).at hB hgi) ?_
    first|refine Zhg (Zcr rfl) ?_|refine Zhg (Zct) ?_|refine Zhg (Zcu rfl) ?_
    first|refine Zhg (Zmf rfl rfl) ?_|refine Zhg (Zbn rfl rfl) ?_
    refine Zg3 ?_
    refine Ct.o ?_
    refine Zgg rfl (fun hA => ?_) (fun hA => ?_)
    · refine Zgt (fun F w H => own_some (a := qa) qH (by omega) H) ?_
      rintro ⟨g, rfl⟩
      refine Ct.o ?_
      refine Zij (_) [7] (.q 0 (.q 1 (.q 2 (.q 4 (.q 5 (.q 6 (.r 3 (.e 7 true (.q 8 (.e 9 false .nil)))))))))) (by kernel_rfl) (by kernel_rfl) (Imp.refl _) ?_
      first|refine Zim rfl (Zaw rfl) ?_|refine Zim rfl (Zar rfl) ?_
      first|refine Zim rfl (Zat rfl) ?_|refine Zim rfl (Zar rfl) ?_
      first|refine Zim rfl (Zl4 rfl rfl) ?_|refine Zim rfl (Zl1 rfl rfl) ?_
      first|refine Zim rfl (Zat rfl) ?_|refine Zim rfl (Zar rfl) ?_
      first|refine Zim rfl (Zat rfl) ?_|refine Zim rfl (Zar rfl) ?_
      first|refine Zim rfl (Zat rfl) ?_|refine Zim rfl (Zar rfl) ?_
      refine Zfh rfl rfl ((h.imp qI).at hB hgi) ?_
      refine Ziq rfl ?_
      refine Zh8 rfl (by kernel_rfl) (mark_x i j (by omega) (by omega)) rfl qT ?_
      rintro _ _ ⟨rfl, rfl⟩
      refine Zg2 qA ?_
      refine Zg3 ⟨fun _ => Imp.arr qV, ?_⟩
      first|refine Zim rfl (Zl4 rfl rfl) ?_|refine Zim rfl (Zl1 rfl rfl) ?_
      refine Ziq rfl ?_; refine Zm7 (u := u8b (mkB i j)) (i := j) (xs := x.map u8b) (ys := (x.set j (mkB i j)).map u8b) rfl rfl rfl qR (by omega) (by rw [List.map_set]) ?_; refine Zg3 ⟨(fun hh => Bool.noConfusion hh), ?_⟩
      refine Zik ?_
      refine Ct.o ?_
      refine Zgb ?_
      first|refine Zhg (Zat rfl) ?_|refine Zhg (Zar rfl) ?_
      first|refine Zhg (Zma (b := 1) rfl rfl) ?_|refine Zhg (Zbg rfl rfl) ?_
      first|refine Zhg (Zaz rfl) ?_|refine Zhg (Zas rfl) ?_
      refine Zg3 ?_
      refine Ct.o ?_
      exact Zgl (j + 1, x.set j (mkB i j)) qO ⟨by dsimp only; omega, by simp [hxl], hxm.set (by omega)⟩ qI ⟨rfl, trivial⟩
    · have hje : j = l.length := by omega
      subst hje
      refine Ct.o ?_
      refine Zgb ?_
      first|refine Zhg (Zat rfl) ?_|refine Zhg (Zar rfl) ?_
      first|refine Zhg (Zma (b := 1) rfl rfl) ?_|refine Zhg (Zbg rfl rfl) ?_
      first|refine Zhg (Zaz rfl) ?_|refine Zhg (Zas rfl) ?_
      refine Zg3 ?_
      refine Ct.o ?_
      have e1 : vP (qa, qc, x) = vP qs[i] := by rw [← hq]; simp [vP, hxl]
      refine Zgl (i + 1, qs.set i (qa, qc, x)) qO ⟨by dsimp only; omega, ?_, ?_⟩ ?_ ⟨rfl, trivial⟩
      · dsimp only; rw [List.map_set, e1, ← List.map_set, List.set_getElem_self, hqv]
      · intro k p hk hp
        dsimp only at hk hp
        by_cases e : i = k
        · subst e
          rw [List.getElem?_set_self hiq] at hp
          obtain rfl := Option.some.inj hp
          dsimp only; rw [hxl]; exact hxm
        · rw [List.getElem?_set_ne e] at hp
          exact hqm k p (by omega) hp
      · dsimp only
        have := star_back (A := ownP) hiq (qa, qc, x) (M := L)
        refine Imp.trans ?_ this
        show Imp _ (own 5 1 (.slice qa x.length qc) x.length (x.map u8b) :: _)
        rw [hxl]
        exact qI
  · have hie : i = N := by omega
    subst hie
    have hqm2 : ∀ k p, qs[k]? = some p → MkUp k p.2.2 p.2.2.length := fun k p hp => hqm k p (by have := (List.getElem?_eq_some_iff.mp hp).1; omega) hp
    have hqb : ∀ (k : Nat) (a : Option Addr) (c : Nat) (l : List Byte), qs[k]? = some (a, c, l) → (ps.map vP)[k]? = some (.slice a l.length c) ∧ l.length ≤ 140737488355000 := fun k a c l hk => by
      obtain ⟨h1, h2⟩ := List.getElem?_eq_some_iff.mp hk
      have := vP_at h1 hqv h2.symm
      exact ⟨this, vP_len this hlen⟩
    refine Ct.o ?_
    refine Zgb ?_
    first|refine Zhg (Za2 rfl) ?_|refine Zhg (Zas rfl) ?_
    refine Zg3 ?_
    refine Ct.o ?_
    refine Zgb ?_
    first|refine Zhg (Zaz rfl) ?_|refine Zhg (Zas rfl) ?_
    refine Zg3 ?_
    refine Ct.o ?_
    refine Zgo [(5, 8), (35, 64)] (by kernel_rfl) (fun s : Nat × List Trip × Option Addr × Nat => s.1 ≤ qs.length ∧ s.2.1.length = s.1 ∧ ∀ k t, s.2.1[k]? = some t → qs[k]? = some t.1 ∧ Heir k 70 t.1 t.2.1 t.2.2) (fun s => own 28 1 (.slice s.2.2.1 s.1 s.2.2.2) s.1 (s.2.1.map fun t => vP t.2.1) :: star A2 s.2.1 :: star ownP (qs.drop s.1) :: L) (fun s => [(6, ni s.1), (5, .slice s.2.2.1 s.1 s.2.2.2)]) (fun s => qs.length - s.1) (0, [], none, 0) ⟨Nat.zero_le _, rfl, fun k t h => by simp at h⟩ (Imp.trans (star_nil (A := A2)) Imp.own_nil) ⟨rfl, rfl, trivial⟩ ?_
    rintro ⟨i, ds, ha, hc⟩ u2 ⟨hi, hdl, hdi⟩
    dsimp only at hi hdl hdi ⊢
    refine Ct.o ?_
    refine Zgb ?_
    first|refine Zhg (Zat rfl) ?_|refine Zhg (Zar rfl) ?_
    first|refine Zhg (Zaw rfl) ?_|refine Zhg (Zar rfl) ?_
    first|refine Zhg (Zcr rfl) ?_|refine Zhg (Zct) ?_|refine Zhg (Zcu rfl) ?_
    first|refine Zhg (Zmf rfl rfl) ?_|refine Zhg (Zbn rfl rfl) ?_
    refine Zg3 ?_
    refine Ct.o ?_
    refine Zgg rfl (fun hB => ?_) (fun hB => ?_)
    · have hiq : i < qs.length := by omega
      obtain ⟨⟨qa, qc, l⟩, hq⟩ : ∃ p, p = qs[i] := ⟨_, rfl⟩
      have hqs : qs[i]? = some (qa, qc, l) := by rw [List.getElem?_eq_getElem hiq, ← hq]
      obtain ⟨hgi, hll⟩ := hqb i _ _ _ hqs
      have hmk : MkUp i l l.length := hqm2 i _ hqs
      refine Zgt (fun F w H => (h.imp qI).someAt (by omega) H) ?_
      rintro ⟨a1, a2, rfl⟩
      rw [List.drop_eq_getElem_cons hiq, ← hq]
      refine Zgp (Imp.cons (Imp.cons star_uncons)) ?_
      refine Ct.o ?_
      refine Zgb ?_
      first|refine Zhg (Zaw rfl) ?_|refine Zhg (Zar rfl) ?_
      first|refine Zhg (Zat rfl) ?_|refine Zhg (Zar rfl) ?_
      first|refine Zhg (Zl4 rfl rfl) ?_|refine Zhg (Zl1 rfl rfl) ?_
      refine Zff rfl ((h.imp qI).at hB hgi) ?_
      first|refine Zhg (Za2 rfl) ?_|refine Zhg (Zas rfl) ?_
      refine Zg3 ?_
      refine Ct.o ?_
      refine Zgb ?_
      first|refine Zhg (Zaz rfl) ?_|refine Zhg (Zas rfl) ?_
      refine Zg3 ?_
      refine Ct.o ?_
      refine Zgo [(7, 8), (45, 60)] (by kernel_rfl) (fun s : Nat × Part × Bool => s.1 ≤ 70 ∧ Heir i s.1 (qa, qc, l) s.2.1 s.2.2)
        (fun s => own 5 1 (.slice s.2.1.1 (l.length + s.1) s.2.1.2.1) (l.length + s.1) (s.2.1.2.2.map u8b) :: remP s.2.2 (qa, qc, l) :: own 28 1 (.slice ha i hc) i (ds.map fun t => vP t.2.1) :: star A2 ds :: star ownP (qs.drop (i + 1)) :: L)
        (fun s => [(8, ni s.1), (7, .slice s.2.1.1 (l.length + s.1) s.2.1.2.1)]) (fun s => 70 - s.1) (0, (qa, qc, l), true) ⟨Nat.zero_le _, hmk, hmk, rfl, fun _ => ⟨rfl, rfl, List.take_length⟩⟩ ?_ ⟨rfl, rfl, trivial⟩ ?_
      · refine Imp.trans (Imp.app (L := [])) ?_
        show Imp (remP true (qa, qc, l) :: own 28 1 (.slice ha i hc) i (ds.map fun t => vP t.2.1) :: star A2 ds :: own 5 1 (.slice qa l.length qc) l.length (l.map u8b) :: star ownP (qs.drop (i + 1)) :: L) (own 5 1 (.slice qa l.length qc) l.length (l.map u8b) :: remP true (qa, qc, l) :: own 28 1 (.slice ha i hc) i (ds.map fun t => vP t.2.1) :: star A2 ds :: star ownP (qs.drop (i + 1)) :: L)
        exact qI
      rintro ⟨j, ⟨xa, xc, x⟩, s⟩ u3 ⟨hj, hpm, hxm, hxl, hxs⟩
      dsimp only at hj hpm hxm hxl hxs ⊢
      refine Ct.o ?_
      refine Zgb ?_
      first|refine Zhg (Zat rfl) ?_|refine Zhg (Zar rfl) ?_
      first|refine Zhg (Zmf (b := 70) rfl rfl) ?_|refine Zhg (Zbn rfl rfl) ?_
      refine Zg3 ?_
      refine Ct.o ?_
      refine Zgg rfl (fun hA => ?_) (fun hA => ?_)
      · refine Ct.o ?_
        refine Zgb ?_
        first|refine Zhg (Zaw rfl) ?_|refine Zhg (Zar rfl) ?_
        first|refine Zhg (Zat rfl) ?_|refine Zhg (Zar rfl) ?_
        first|refine Zhg (Zaw rfl) ?_|refine Zhg (Zar rfl) ?_
        first|refine Zhg (Zat rfl) ?_|refine Zhg (Zar rfl) ?_
        first|refine Zhg (Zl4 rfl rfl) ?_|refine Zhg (Zl1 rfl rfl) ?_
        refine Zff rfl ((h.imp qI).at hB hgi) ?_
        first|refine Zhg (Zcr rfl) ?_|refine Zhg (Zct) ?_|refine Zhg (Zcu rfl) ?_
        first|refine Zhg (Zat rfl) ?_|refine Zhg (Zar rfl) ?_
        first|refine Zhg (Zma rfl rfl) ?_|refine Zhg (Zbg rfl rfl) ?_
        refine Zh8 rfl (by kernel_rfl) (mark_x i (l.length + j) (by omega) (by omega)) rfl qT ?_
        rintro _ _ ⟨rfl, rfl⟩
        refine Zg2 qA ?_
        refine Zh7 (cs := #[.int .u8 _]) (by omega) (by omega) rfl ?_; intro b59
        refine Znq rfl rfl qH (Rd.cl (xs := [u8b (mkB i (l.length + j))]) qH rfl qZ rfl) qN (by omega) qS (by omega) ?_; intro s' a' c' hs'
        first|refine Zhg (Za2 rfl) ?_|refine Zhg (Zas rfl) ?_
        refine Zg3 ?_
        refine Ct.o ?_
        have e2 : x.map u8b ++ [u8b (mkB i (l.length + j))] = (x ++ [mkB i (l.length + j)]).map u8b := by simp only [List.map_append, List.map_cons, List.map_nil]
        rw [e2]
        have hm2 : MkUp i (x ++ [mkB i (l.length + j)]) (x ++ [mkB i (l.length + j)]).length := by
          have := MkUp.snoc hxm
          rw [List.length_append]; rw [hxl] at this ⊢; exact this
        have hl2 : (x ++ [mkB i (l.length + j)]).length = l.length + (j + 1) := by rw [List.length_append, hxl]; rfl
        refine Ct.o ?_
        refine Zgb ?_
        first|refine Zhg (Zat rfl) ?_|refine Zhg (Zar rfl) ?_
        first|refine Zhg (Zma (b := 1) rfl rfl) ?_|refine Zhg (Zbg rfl rfl) ?_
        first|refine Zhg (Zaz rfl) ?_|refine Zhg (Zas rfl) ?_
        refine Zg3 ?_
        refine Ct.o ?_
        cases s with
        | false =>
          refine Zgl (j + 1, (a', c', x ++ [mkB i (l.length + j)]), false) qO ⟨by dsimp only; omega, hpm, hm2, hl2, fun h => Bool.noConfusion h⟩ ?_ ⟨rfl, rfl, trivial⟩
          show Imp _ (own 5 1 (.slice a' (l.length + j + 1) c') (l.length + j + 1) ((x ++ [mkB i (l.length + j)]).map u8b) :: remP false (qa, qc, l) :: own 28 1 (.slice ha i hc) i (ds.map fun t => vP t.2.1) :: star A2 ds :: star ownP (qs.drop (i + 1)) :: L)
          exact qI
        | true =>
          obtain ⟨rfl, rfl, ht⟩ := hxs rfl
          cases s' with
          | true =>
            obtain ⟨rfl, rfl⟩ := hs' rfl
            refine Zgl (j + 1, (_, _, x ++ [mkB i (l.length + j)]), true) qO ⟨by dsimp only; omega, hpm, hm2, hl2, fun _ => ⟨rfl, rfl, by dsimp only; rw [List.take_append_of_le_length (by omega), ht]⟩⟩ ?_ ⟨rfl, rfl, trivial⟩
            show Imp _ (own 5 1 (.slice _ (l.length + j + 1) _) (l.length + j + 1) ((x ++ [mkB i (l.length + j)]).map u8b) :: remP true (_, _, l) :: own 28 1 (.slice ha i hc) i (ds.map fun t => vP t.2.1) :: star A2 ds :: star ownP (qs.drop (i + 1)) :: L)
            exact qI
          | false =>
            refine Zgl (j + 1, (a', c', x ++ [mkB i (l.length + j)]), false) qO ⟨by dsimp only; omega, hpm, hm2, hl2, fun h => Bool.noConfusion h⟩ ?_ ⟨rfl, rfl, trivial⟩
            refine Imp.trans (Imp.cons ((Imp.unapp (L := [own 5 1 (.slice xa (l.length + j) xc) (l.length + j) (x.map u8b)])).trans (own_take (m := l.length) (by omega)))) ?_
            rw [← List.map_take, ht]
            refine Imp.trans (Imp.arr (N := own 5 1 (.slice xa l.length xc) l.length (l.map u8b) :: own 5 1 (.slice a' (l.length + j + 1) c') (l.length + j + 1) ((x ++ [mkB i (l.length + j)]).map u8b) :: own 28 1 (.slice ha i hc) i (ds.map fun t => vP t.2.1) :: star A2 ds :: star ownP (qs.drop (i + 1)) :: L) qV) ?_
            exact (Imp.app (L := [ownP (xa, xc, l)])).trans Imp.swap
      · have hje : j = 70 := by omega
        subst hje
        refine Ct.o ?_
        refine Zgb ?_
        first|refine Zhg (Zaw rfl) ?_|refine Zhg (Zar rfl) ?_
        first|refine Zhg (Zaw rfl) ?_|refine Zhg (Zar rfl) ?_
        refine Zh7 (cs := #[.slice _ _ _]) (by omega) (by omega) rfl ?_; intro b63
        refine Zia rfl rfl qH (Rd.cl (xs := [.slice xa (l.length + 70) xc]) qH rfl qZ rfl) qN (by omega) qS ?_; intro a3 c3
        first|refine Zhg (Za2 rfl) ?_|refine Zhg (Zas rfl) ?_
        refine Zg3 ?_
        refine Ct.o ?_
        refine Zgb ?_
        first|refine Zhg (Zat rfl) ?_|refine Zhg (Zar rfl) ?_
        first|refine Zhg (Zma (b := 1) rfl rfl) ?_|refine Zhg (Zbg rfl rfl) ?_
        first|refine Zhg (Zaz rfl) ?_|refine Zhg (Zas rfl) ?_
        refine Zg3 ?_
        refine Ct.o ?_
        refine Zgl (i + 1, ds ++ [((qa, qc, l), (xa, xc, x), s)], a3, c3) qO ⟨by dsimp only; omega, by simp [hdl], ?_⟩ ?_ ⟨rfl, rfl, trivial⟩
        · intro k t hk
          dsimp only at hk
          by_cases e : k < ds.length
          · rw [List.getElem?_append_left e] at hk; exact hdi k t hk
          · rw [List.getElem?_append_right (by omega)] at hk
            obtain ⟨h1, h2⟩ := List.getElem?_eq_some_iff.mp hk
            have : k = i := by simp at h1; omega
            subst this
            have : t = ((qa, qc, l), (xa, xc, x), s) := by rw [← h2]; simp [hdl]
            subst this
            exact ⟨hqs, hpm, hxm, hxl, hxs⟩
        · dsimp only
          have e3 : (ds ++ [((qa, qc, l), (xa, xc, x), s)]).map (fun t : Trip => vP t.2.1) = (ds.map fun t => vP t.2.1) ++ [.slice xa (l.length + 70) xc] := by
            rw [List.map_append]; simp only [List.map_cons, List.map_nil, vP]; rw [hxl]
          rw [e3]
          refine Imp.trans (Imp.arr (N := own 5 1 (.slice xa (l.length + 70) xc) (l.length + 70) (x.map u8b) :: remP s (qa, qc, l) :: star A2 ds :: own 28 1 (.slice a3 (i + 1) c3) (i + 1) ((ds.map fun t => vP t.2.1) ++ [.slice xa (l.length + 70) xc]) :: star ownP (qs.drop (i + 1)) :: L) qV) ?_
          have h1 : Imp (own 5 1 (.slice xa (l.length + 70) xc) (l.length + 70) (x.map u8b) :: remP s (qa, qc, l) :: star A2 ds :: own 28 1 (.slice a3 (i + 1) c3) (i + 1) ((ds.map fun t => vP t.2.1) ++ [.slice xa (l.length + 70) xc]) :: star ownP (qs.drop (i + 1)) :: L)
              (A2 ((qa, qc, l), (xa, xc, x), s) :: star A2 ds :: own 28 1 (.slice a3 (i + 1) c3) (i + 1) ((ds.map fun t => vP t.2.1) ++ [.slice xa (l.length + 70) xc]) :: star ownP (qs.drop (i + 1)) :: L) := by
            have e4 : own 5 1 (.slice xa (l.length + 70) xc) (l.length + 70) (x.map u8b) = ownP (xa, xc, x) := by unfold ownP vP; dsimp only; rw [hxl]
            rw [e4]
            exact Imp.app (L := [ownP (xa, xc, x), remP s (qa, qc, l)])
          exact h1.trans (star_snoc.trans Imp.swap)
    · have hie : i = qs.length := by omega
      subst hie
      refine Ct.o ?_
      refine Zgb ?_
      first|refine Zhg (Zaz rfl) ?_|refine Zhg (Zas rfl) ?_
      refine Zg3 ?_
      refine Ct.o ?_
      refine Zgo [(2, 2), (9, 10), (65, 112)] (by kernel_rfl) (fun k : Nat => k ≤ qs.length) (fun _ => own 28 1 (.slice ha qs.length hc) qs.length (ds.map fun t => vP t.2.1) :: star A2 ds :: L) (fun k => [(9, ni k)]) (fun k => qs.length - k) 0 (Nat.zero_le _) qI ⟨rfl, trivial⟩ ?_
      intro k u3 hk
      refine Ct.o ?_
      refine Zgb ?_
      first|refine Zhg (Zat rfl) ?_|refine Zhg (Zar rfl) ?_
      first|refine Zhg (Zaw rfl) ?_|refine Zhg (Zar rfl) ?_
      first|refine Zhg (Zcr rfl) ?_|refine Zhg (Zct) ?_|refine Zhg (Zcu rfl) ?_
      first|refine Zhg (Zmf rfl rfl) ?_|refine Zhg (Zbn rfl rfl) ?_
      refine Zg3 ?_
      refine Ct.o ?_
      refine Zgg rfl (fun hB => ?_) (fun hB => ?_)
      · have hkd : k < ds.length := by omega
        have hkq : k < qs.length := by omega
        obtain ⟨⟨⟨pa, pc, p⟩, ⟨qa, qc, q⟩, s⟩, ht⟩ : ∃ t, t = ds[k] := ⟨_, rfl⟩
        have hmem : ((pa, pc, p), (qa, qc, q), s) ∈ ds := by rw [ht]; exact List.getElem_mem hkd
        obtain ⟨hps, hheir⟩ := hdi k ((pa, pc, p), (qa, qc, q), s) (by rw [List.getElem?_eq_getElem hkd, ← ht])
        obtain ⟨hgp, hpl⟩ := hqb k _ _ _ hps
        have hge : (ds.map fun t => vP t.2.1)[k]? = some (.slice qa q.length qc) := by rw [List.getElem?_map, List.getElem?_eq_getElem hkd, ← ht]; rfl
        have bq : ∀ {M M' : List Asrt}, Has M (star A2 ds) M' → Bs M (.slice qa q.length qc) q := fun hm => star_bs hmem (fun R => A2_q) hm
        have bp : ∀ {M M' : List Asrt}, Has M (star A2 ds) M' → Bs M (.slice pa p.length pc) p := fun hm => star_bs hmem (fun R => A2_p hheir) hm
        obtain ⟨hpm, hqm3, hql2, _⟩ := hheir
        dsimp only at hpm hqm3 hql2
        refine Zgt (fun F w H => (h.imp qI).someAt (by omega) H) ?_
        rintro ⟨a1, a2, rfl⟩
        refine Zgt (fun F w H => own_some (a := ha) qH (by omega) H) ?_
        rintro ⟨gh, rfl⟩
        refine Ct.o ?_
        refine Zgb ?_
        first|refine Zhg (Zaz rfl) ?_|refine Zhg (Zas rfl) ?_
        refine Zg3 ?_
        refine Ct.o ?_
        refine Zgo [(2, 2), (10, 10), (71, 112)] (by kernel_rfl) (fun j : Nat => j ≤ q.length) (fun _ => own 28 1 (.slice (some ⟨gh, 0, none⟩) qs.length hc) qs.length (ds.map fun t => vP t.2.1) :: star A2 ds :: L) (fun j => [(10, ni j)]) (fun j => q.length - j) 0 (Nat.zero_le _) qI ⟨rfl, trivial⟩ ?_
        intro j u4 hj
        refine Ct.o ?_
        refine Zgb ?_
        first|refine Zhg (Zat rfl) ?_|refine Zhg (Zar rfl) ?_
        first|refine Zhg (Zaw rfl) ?_|refine Zhg (Zar rfl) ?_
        first|refine Zhg (Zat rfl) ?_|refine Zhg (Zar rfl) ?_
        first|refine Zhg (Zl4 rfl rfl) ?_|refine Zhg (Zl1 rfl rfl) ?_
        refine Zff rfl ((Rd.own (n := qs.length) qH).at0 hkq hge) ?_
        first|refine Zhg (Zcr rfl) ?_|refine Zhg (Zct) ?_|refine Zhg (Zcu rfl) ?_
        first|refine Zhg (Zmf rfl rfl) ?_|refine Zhg (Zbn rfl rfl) ?_
        refine Zg3 ?_
        refine Ct.o ?_
        refine Zgg rfl (fun hA => ?_) (fun hA => ?_)
        · have hqv2 : q[j] = mkB k j := hqm3.at hA hA
          refine Zgt (fun F w H => (bq qH).some (by omega) H) ?_
          rintro ⟨c1, c2, rfl⟩
          by_cases hjp : j < p.length
          · have hpv2 : p[j] = mkB k j := hpm.at hjp hjp
            refine Zgt (fun F w H => (bp qH).some (by omega) H) ?_
            rintro ⟨d1, d2, rfl⟩
            refine Ct.o ?_
            refine Zij (_) [9, 29] (.q 0 (.q 1 (.q 2 (.q 4 (.q 7 (.q 8 (.r 3 (.q 5 (.r 6 (.e 9 true (.q 10 (.q 11 (.q 12 (.q 13 (.q 14 (.q 15 (.r 16 (.q 17 (.q 18 (.q 19 (.q 20 (.q 21 (.q 22 (.q 24 (.q 27 (.q 28 (.r 23 (.q 25 (.r 26 (.e 29 true (.q 30 (.q 31 (.q 32 .nil))))))))))))))))))))))))))))))))) (by kernel_rfl) (by kernel_rfl) (Imp.refl _) ?_
            first|refine Zim rfl (Zaw rfl) ?_|refine Zim rfl (Zar rfl) ?_
            first|refine Zim rfl (Zat rfl) ?_|refine Zim rfl (Zar rfl) ?_
            first|refine Zim rfl (Zl4 rfl rfl) ?_|refine Zim rfl (Zl1 rfl rfl) ?_
            first|refine Zim rfl (Zat rfl) ?_|refine Zim rfl (Zar rfl) ?_
            first|refine Zim rfl (Zat rfl) ?_|refine Zim rfl (Zar rfl) ?_
            first|refine Zim rfl (Zat rfl) ?_|refine Zim rfl (Zar rfl) ?_
            refine Zfh rfl rfl ((Rd.own (n := qs.length) qH).at0 hkq hge) ?_
            first|refine Zim rfl (Zl4 rfl rfl) ?_|refine Zim rfl (Zl1 rfl rfl) ?_
            refine Zfh rfl rfl ((bq qH).rd.at hA (getM hA)) ?_
            refine Ziq rfl ?_
            refine Zh8 rfl (by kernel_rfl) (mark_x k j (by omega) (by omega)) rfl qT ?_
            rintro _ _ ⟨rfl, rfl⟩
            refine Zg2 qA ?_
            refine Zg3 ⟨fun _ => Imp.arr qV, ?_⟩
            refine Zim rfl (Zjl rfl rfl) ?_
            refine Zi6 90 rfl (decide_eq_false ((fun hh => hh hqv2))) ?_
            first|refine Zim rfl (Zau rfl) ?_|refine Zim rfl (Zar rfl) ?_
            first|refine Zio rfl rfl ?_|refine Zip rfl rfl ?_|refine Zin rfl rfl (Zat rfl) ?_|refine Zin rfl rfl (Zar rfl) ?_
            first|refine Zio rfl rfl ?_|refine Zip rfl rfl ?_|refine Zin rfl rfl (Zaw rfl) ?_|refine Zin rfl rfl (Zar rfl) ?_
            first|refine Zio rfl rfl ?_|refine Zip rfl rfl ?_|refine Zin rfl rfl (Zat rfl) ?_|refine Zin rfl rfl (Zar rfl) ?_
            first|refine Zio rfl rfl ?_|refine Zip rfl rfl ?_|refine Zin rfl rfl (Zl4 rfl rfl) ?_|refine Zin rfl rfl (Zl1 rfl rfl) ?_
            first|refine Zi1 rfl rfl ?_|refine Zi2 rfl rfl ?_|refine Zfi rfl rfl rfl ((h.imp qI).at (by omega) hgp) ?_
            first|refine Zio rfl rfl ?_|refine Zip rfl rfl ?_|refine Zin rfl rfl (Zcr rfl) ?_|refine Zin rfl rfl (Zct) ?_|refine Zin rfl rfl (Zcu rfl) ?_
            first|refine Zio rfl rfl ?_|refine Zip rfl rfl ?_|refine Zin rfl rfl (Zmf rfl rfl) ?_|refine Zin rfl rfl (Zbn rfl rfl) ?_
            refine Zi5 98 rfl (decide_eq_true (hjp)) ?_
            first|refine Zio rfl rfl ?_|refine Zip rfl rfl ?_|refine Zin rfl rfl (Zau rfl) ?_|refine Zin rfl rfl (Zar rfl) ?_
            first|refine Zio rfl rfl ?_|refine Zip rfl rfl ?_|refine Zin rfl rfl (Zaw rfl) ?_|refine Zin rfl rfl (Zar rfl) ?_
            first|refine Zio rfl rfl ?_|refine Zip rfl rfl ?_|refine Zin rfl rfl (Zat rfl) ?_|refine Zin rfl rfl (Zar rfl) ?_
            first|refine Zio rfl rfl ?_|refine Zip rfl rfl ?_|refine Zin rfl rfl (Zl4 rfl rfl) ?_|refine Zin rfl rfl (Zl1 rfl rfl) ?_
            first|refine Zio rfl rfl ?_|refine Zip rfl rfl ?_|refine Zin rfl rfl (Zat rfl) ?_|refine Zin rfl rfl (Zar rfl) ?_
            first|refine Zio rfl rfl ?_|refine Zip rfl rfl ?_|refine Zin rfl rfl (Zat rfl) ?_|refine Zin rfl rfl (Zar rfl) ?_
            first|refine Zio rfl rfl ?_|refine Zip rfl rfl ?_|refine Zin rfl rfl (Zat rfl) ?_|refine Zin rfl rfl (Zar rfl) ?_
            first|refine Zi1 rfl rfl ?_|refine Zi2 rfl rfl ?_|refine Zfi rfl rfl rfl ((h.imp qI).at (by omega) hgp) ?_
            first|refine Zio rfl rfl ?_|refine Zip rfl rfl ?_|refine Zin rfl rfl (Zl4 rfl rfl) ?_|refine Zin rfl rfl (Zl1 rfl rfl) ?_
            first|refine Zi1 rfl rfl ?_|refine Zi2 rfl rfl ?_|refine Zfi rfl rfl rfl ((bp qH).rd.at hjp (getM hjp)) ?_
            refine Ziq rfl ?_
            first|refine Zhi rfl ?_|refine Zhj rfl ?_|(refine Zhh rfl ?_; (refine Zh8 rfl (by kernel_rfl) (mark_x k j (by omega) (by omega)) rfl qT ?_); (rintro _ _ ⟨rfl, rfl⟩); (refine Zg2 qA ?_))
            refine Zg3 ⟨fun _ => Imp.arr qV, ?_⟩
            first|refine Zio rfl rfl ?_|refine Zip rfl rfl ?_|refine Zin rfl rfl (Zjl rfl rfl) ?_
            refine Zi6 110 rfl (decide_eq_false ((fun hh => hh hpv2))) ?_
            first|refine Zio rfl rfl ?_|refine Zip rfl rfl ?_|refine Zin rfl rfl (Zdz rfl rfl) ?_|refine Zin rfl rfl (Zd0 rfl rfl) ?_|refine Zin rfl rfl (Za8 rfl rfl) ?_|refine Zin rfl rfl (Za9 rfl rfl) ?_|refine Zin rfl rfl (Za6 rfl rfl) ?_|refine Zin rfl rfl (Za7 rfl rfl) ?_
            first|refine Zim rfl (Zdz rfl rfl) ?_|refine Zim rfl (Zd0 rfl rfl) ?_|refine Zim rfl (Za8 rfl rfl) ?_|refine Zim rfl (Za9 rfl rfl) ?_|refine Zim rfl (Za6 rfl rfl) ?_|refine Zim rfl (Za7 rfl rfl) ?_
            refine Zik ?_
            refine Ct.o ?_
            refine Zgf rfl ?_
            refine Ct.o ?_
            refine Zgb ?_
            first|refine Zhg (Zat rfl) ?_|refine Zhg (Zar rfl) ?_
            first|refine Zhg (Zma (b := 1) rfl rfl) ?_|refine Zhg (Zbg rfl rfl) ?_
            first|refine Zhg (Zaz rfl) ?_|refine Zhg (Zas rfl) ?_
            refine Zg3 ?_
            refine Ct.o ?_
            exact Zgl (j + 1) qO (by omega) qI ⟨rfl, trivial⟩
          · refine Ct.o ?_
            refine Zij (_) [9, 29] (.q 0 (.q 1 (.q 2 (.q 4 (.q 7 (.q 8 (.r 3 (.q 5 (.r 6 (.e 9 true (.q 10 (.q 11 (.q 12 (.q 13 (.q 14 (.q 15 (.r 16 (.q 17 (.q 18 (.q 19 (.q 20 (.q 21 (.q 22 (.q 24 (.q 27 (.q 28 (.r 23 (.q 25 (.r 26 (.e 29 true (.q 30 (.q 31 (.q 32 .nil))))))))))))))))))))))))))))))))) (by kernel_rfl) (by kernel_rfl) (Imp.refl _) ?_
            first|refine Zim rfl (Zaw rfl) ?_|refine Zim rfl (Zar rfl) ?_
            first|refine Zim rfl (Zat rfl) ?_|refine Zim rfl (Zar rfl) ?_
            first|refine Zim rfl (Zl4 rfl rfl) ?_|refine Zim rfl (Zl1 rfl rfl) ?_
            first|refine Zim rfl (Zat rfl) ?_|refine Zim rfl (Zar rfl) ?_
            first|refine Zim rfl (Zat rfl) ?_|refine Zim rfl (Zar rfl) ?_
            first|refine Zim rfl (Zat rfl) ?_|refine Zim rfl (Zar rfl) ?_
            refine Zfh rfl rfl ((Rd.own (n := qs.length) qH).at0 hkq hge) ?_
            first|refine Zim rfl (Zl4 rfl rfl) ?_|refine Zim rfl (Zl1 rfl rfl) ?_
            refine Zfh rfl rfl ((bq qH).rd.at hA (getM hA)) ?_
            refine Ziq rfl ?_
            refine Zh8 rfl (by kernel_rfl) (mark_x k j (by omega) (by omega)) rfl qT ?_
            rintro _ _ ⟨rfl, rfl⟩
            refine Zg2 qA ?_
            refine Zg3 ⟨fun _ => Imp.arr qV, ?_⟩
            refine Zim rfl (Zjl rfl rfl) ?_
            refine Zi6 90 rfl (decide_eq_false ((fun hh => hh hqv2))) ?_
            first|refine Zim rfl (Zau rfl) ?_|refine Zim rfl (Zar rfl) ?_
            first|refine Zio rfl rfl ?_|refine Zip rfl rfl ?_|refine Zin rfl rfl (Zat rfl) ?_|refine Zin rfl rfl (Zar rfl) ?_
            first|refine Zio rfl rfl ?_|refine Zip rfl rfl ?_|refine Zin rfl rfl (Zaw rfl) ?_|refine Zin rfl rfl (Zar rfl) ?_
            first|refine Zio rfl rfl ?_|refine Zip rfl rfl ?_|refine Zin rfl rfl (Zat rfl) ?_|refine Zin rfl rfl (Zar rfl) ?_
            first|refine Zio rfl rfl ?_|refine Zip rfl rfl ?_|refine Zin rfl rfl (Zl4 rfl rfl) ?_|refine Zin rfl rfl (Zl1 rfl rfl) ?_
            first|refine Zi1 rfl rfl ?_|refine Zi2 rfl rfl ?_|refine Zfi rfl rfl rfl ((h.imp qI).at (by omega) hgp) ?_
            first|refine Zio rfl rfl ?_|refine Zip rfl rfl ?_|refine Zin rfl rfl (Zcr rfl) ?_|refine Zin rfl rfl (Zct) ?_|refine Zin rfl rfl (Zcu rfl) ?_
            first|refine Zio rfl rfl ?_|refine Zip rfl rfl ?_|refine Zin rfl rfl (Zmf rfl rfl) ?_|refine Zin rfl rfl (Zbn rfl rfl) ?_
            refine Zi6 98 rfl (decide_eq_false (hjp)) ?_
            first|refine Zio rfl rfl ?_|refine Zip rfl rfl ?_|refine Zin rfl rfl (Zau rfl) ?_|refine Zin rfl rfl (Zar rfl) ?_
            first|refine Zio rfl rfl ?_|refine Zip rfl rfl ?_|refine Zin rfl rfl (Zaw rfl) ?_|refine Zin rfl rfl (Zar rfl) ?_
            first|refine Zio rfl rfl ?_|refine Zip rfl rfl ?_|refine Zin rfl rfl (Zat rfl) ?_|refine Zin rfl rfl (Zar rfl) ?_
            first|refine Zio rfl rfl ?_|refine Zip rfl rfl ?_|refine Zin rfl rfl (Zl4 rfl rfl) ?_|refine Zin rfl rfl (Zl1 rfl rfl) ?_
            first|refine Zio rfl rfl ?_|refine Zip rfl rfl ?_|refine Zin rfl rfl (Zat rfl) ?_|refine Zin rfl rfl (Zar rfl) ?_
            first|refine Zio rfl rfl ?_|refine Zip rfl rfl ?_|refine Zin rfl rfl (Zat rfl) ?_|refine Zin rfl rfl (Zar rfl) ?_
            first|refine Zio rfl rfl ?_|refine Zip rfl rfl ?_|refine Zin rfl rfl (Zat rfl) ?_|refine Zin rfl rfl (Zar rfl) ?_
            first|refine Zi1 rfl rfl ?_|refine Zi2 rfl rfl ?_|refine Ziw rfl rfl rfl qH rfl ?_
            first|refine Zio rfl rfl ?_|refine Zip rfl rfl ?_|refine Zin rfl rfl (Zl4 rfl rfl) ?_|refine Zin rfl rfl (Zl1 rfl rfl) ?_
            first|refine Zi1 rfl rfl ?_|refine Zi2 rfl rfl ?_|refine Ziw rfl rfl rfl qH rfl ?_
            refine Ziq rfl ?_
            first|refine Zhi rfl ?_|refine Zhj rfl ?_|(refine Zhh rfl ?_; (refine Zh8 rfl (by kernel_rfl) (mark_x k j (by omega) (by omega)) rfl qT ?_); (rintro _ _ ⟨rfl, rfl⟩); (refine Zg2 qA ?_))
            refine Zg3 ⟨fun _ => Imp.arr qV, ?_⟩
            first|refine Zio rfl rfl ?_|refine Zip rfl rfl ?_|refine Zin rfl rfl (Zjl rfl rfl) ?_
            first|refine Zio rfl rfl ?_|refine Zip rfl rfl ?_|refine Zin rfl rfl (Zdz rfl rfl) ?_|refine Zin rfl rfl (Zd0 rfl rfl) ?_|refine Zin rfl rfl (Za8 rfl rfl) ?_|refine Zin rfl rfl (Za9 rfl rfl) ?_|refine Zin rfl rfl (Za6 rfl rfl) ?_|refine Zin rfl rfl (Za7 rfl rfl) ?_
            first|refine Zim rfl (Zdz rfl rfl) ?_|refine Zim rfl (Zd0 rfl rfl) ?_|refine Zim rfl (Za8 rfl rfl) ?_|refine Zim rfl (Za9 rfl rfl) ?_|refine Zim rfl (Za6 rfl rfl) ?_|refine Zim rfl (Za7 rfl rfl) ?_
            refine Zik ?_
            refine Ct.o ?_
            refine Zgf rfl ?_
            refine Ct.o ?_
            refine Zgb ?_
            first|refine Zhg (Zat rfl) ?_|refine Zhg (Zar rfl) ?_
            first|refine Zhg (Zma (b := 1) rfl rfl) ?_|refine Zhg (Zbg rfl rfl) ?_
            first|refine Zhg (Zaz rfl) ?_|refine Zhg (Zas rfl) ?_
            refine Zg3 ?_
            refine Ct.o ?_
            exact Zgl (j + 1) qO (by omega) qI ⟨rfl, trivial⟩
        · refine Ct.o ?_
          refine Zgb ?_
          first|refine Zhg (Zat rfl) ?_|refine Zhg (Zar rfl) ?_
          first|refine Zhg (Zma (b := 1) rfl rfl) ?_|refine Zhg (Zbg rfl rfl) ?_
          first|refine Zhg (Zaz rfl) ?_|refine Zhg (Zas rfl) ?_
          refine Zg3 ?_
          refine Ct.o ?_
          exact Zgl (k + 1) qO (by omega) qI ⟨rfl, trivial⟩
      · refine Ct.o ?_
        refine Zgb ?_
        first|refine Zhg (Za0 rfl) ?_|refine Zhg (Zas rfl) ?_
        refine Zg3 ?_
        refine Ct.o ?_
        refine rx1 (Zha rfl (Zg7)) ?_
        exact ⟨_, ⟨rfl, rfl⟩, qI⟩
end Go.Sl

/- trystlaw12: PageSeals, PageOpens, walked. -/
set_option maxHeartbeats 4000000
set_option maxRecDepth 10000
set_option linter.unusedVariables false
set_option linter.unusedSimpArgs false
namespace Go.Sl
open Go Go.Proofs
attribute [local irreducible] cl pt own old pur ex all den denOps denS xOps xC cX CX xthen xblk xcut xloop xgo xng retX resX Calls PV Rd Con
attribute [local irreducible] pgSealB pgOpenR pgHeadR pgSealR pgOpens
theorem shc_one (key : List Byte) (p : Plc) (a : Option Addr) (n c : Nat) : ((shc key p (.slice a n c)).toArray).toList.all oneC = true := by simp [shc, oneC]
theorem pgSeals_g {L : List Asrt} (key : List Byte) (hk : key.length = 32) (p : Plc) {vt : Value} {text : List Byte} (hta : Bs L vt text) (htl : text.length ≤ 140737488351232) :
    Con Tryz.prog 3 [.agg (shc key p vt).toArray] L (fun r M => r = .bool true ∧ L = M) := by
  obtain ⟨n, hn⟩ : ∃ n, text.length = n := ⟨_, rfl⟩
  refine Con.get (fun w0 w F H => hta.sh _ _ _ H) ?_
  rintro ⟨ta, tc, rfl, htc1, htc2⟩
  have hlen := shc_len (p := p) (v := .slice ta text.length tc) hk
  have c0 := shc_key (p := p) (v := .slice ta text.length tc) hk
  have c1 := shc_place (p := p) (v := .slice ta text.length tc) hk
  have c2 := shc_b (p := p) (v := .slice ta text.length tc) hk
  have hs3 := pgSealRef_x (L := L) key hk p hta htl
  have hs4 := fun gt => pgSeal_x (L := [cl gt ((spareL text).map u8b).toArray 5]) key hk p (bs_spare .here (by omega)) htl
  have hRl := pgSealR_len key p text
  generalize pgSealR key p text = R at hs3 hs4 hRl
  obtain ⟨S, e⟩ := R
  dsimp only at hs3 hs4 hRl
  have hsp : spareL text = text ++ (spareL text).drop text.length := by
    conv => lhs; rw [← List.take_append_drop text.length (spareL text), spareL_take]
  have htail : ((spareL text).drop text.length).length = 80 := by rw [List.length_drop, spareL_len]; omega
  refine fn_x Tryz.func3 rfl rfl rfl Tryz.mixed (by kernel_rfl) ?_
  intro w0
  refine Ct.o ?_
  refine Zgb ?_
  refine Zh5 rfl ?_; intro b1
  first|refine Zhg (Za0 rfl) ?_|refine Zhg (Zas rfl) ?_
  refine Zg3 ?_
  refine Ct.o ?_
  refine Zgb ?_
  first|refine Zhg (Zl8 rfl) ?_|refine Zhg (Zce rfl) ?_
  refine Zhq (n := 32) rfl qH qZ (c0) ?_
  first|refine Zhg (Zl8 rfl) ?_|refine Zhg (Zce rfl) ?_
  refine Zhq (n := 4) rfl qH qZ (c1) ?_
  first|refine Zhg (Zl8 rfl) ?_|refine Zhg (Zce rfl) ?_
  refine Zhp rfl qH (c2) ?_
  refine Zh8 rfl (by kernel_rfl) (hs3) rfl qT ?_
  rintro _ _ ⟨ra, rc, rfl, rfl⟩
  refine Zg2 qA ?_
  first|refine Zhg (Zmm rfl) ?_|refine Zhg (Zar rfl) ?_
  refine Zhg (Zco rfl rfl) ?_
  refine Zhg (Zco rfl rfl) ?_
  first|refine Zhg (Za2 rfl) ?_|refine Zhg (Zas rfl) ?_
  first|refine Zhg (Zaz rfl) ?_|refine Zhg (Zas rfl) ?_
  refine Zg3 ?_
  refine Ct.o ?_
  refine Zgb ?_
  first|refine Zhg (Zl8 rfl) ?_|refine Zhg (Zce rfl) ?_
  refine Zhp rfl qH (c2) ?_
  refine Zh8 rfl (by kernel_rfl) (spare_x (L := L) hta (by omega)) rfl qT ?_
  rintro _ _ ⟨gt, rfl, rfl⟩
  refine Zg2 qA ?_
  first|refine Zhg (Za2 rfl) ?_|refine Zhg (Zas rfl) ?_
  refine Zg3 ?_
  refine Ct.o ?_
  refine Zgb ?_
  first|refine Zhg (Zl8 rfl) ?_|refine Zhg (Zce rfl) ?_
  refine Zhq (n := 32) rfl qH qZ (c0) ?_
  first|refine Zhg (Zl8 rfl) ?_|refine Zhg (Zce rfl) ?_
  refine Zhq (n := 4) rfl qH qZ (c1) ?_
  first|refine Zhg (Zaw rfl) ?_|refine Zhg (Zar rfl) ?_
  refine Zh8 rfl (by kernel_rfl) (hs4 gt) rfl qT ?_
  rintro _ _ ⟨sa, sc, rfl, rfl⟩
  refine Zg2 qA ?_
  first|refine Zhg (Zmm rfl) ?_|refine Zhg (Zar rfl) ?_
  refine Zhg (Zco rfl rfl) ?_
  refine Zhg (Zco rfl rfl) ?_
  first|refine Zhg (Za2 rfl) ?_|refine Zhg (Zas rfl) ?_
  first|refine Zhg (Zaz rfl) ?_|refine Zhg (Zas rfl) ?_
  refine Zg3 ?_
  refine Ct.o ?_
  refine Zgb ?_
  first|refine Zhg (Zl8 rfl) ?_|refine Zhg (Zce rfl) ?_
  refine Zhq (n := 32) rfl qH qZ (c0) ?_
  first|refine Zhg (Zl8 rfl) ?_|refine Zhg (Zce rfl) ?_
  refine Zhq (n := 4) rfl qH qZ (c1) ?_
  first|refine Zhg (Zaw rfl) ?_|refine Zhg (Zar rfl) ?_
  refine Zh8 rfl (by kernel_rfl) (hs4 gt) rfl qT ?_
  rintro _ _ ⟨ua, uc, rfl, rfl⟩
  refine Zg2 qA ?_
  first|refine Zhg (Zmm rfl) ?_|refine Zhg (Zar rfl) ?_
  refine Zhg (Zco rfl rfl) ?_
  refine Zhg (Zco rfl rfl) ?_
  first|refine Zhg (Za2 rfl) ?_|refine Zhg (Zas rfl) ?_
  first|refine Zhg (Zaz rfl) ?_|refine Zhg (Zas rfl) ?_
  refine Zg3 ?_
  refine Ct.o ?_
  have ebA := fun (sa : Option Addr) sc => eqBytes_x (L := [own 5 1 (.slice sa S.length sc) S.length (S.map u8b), own 5 1 (.slice ra S.length rc) S.length (S.map u8b)]) (a := S) (b := S) (Bs.own .here) (Bs.own (.there .here))
  refine Ct.o ?_
  refine Zgb ?_
  first|refine Zhg (Zat rfl) ?_|refine Zhg (Zar rfl) ?_
  first|refine Zhg (Zat rfl) ?_|refine Zhg (Zar rfl) ?_
  first|refine Zhg (Zmk rfl rfl) ?_|refine Zhg (Zbs rfl rfl) ?_
  refine Zhn 46 rfl (decide_eq_false ((fun h => h rfl))) ?_
  first|refine Zhg (Zau rfl) ?_|refine Zhg (Zar rfl) ?_
  first|refine Zhi rfl ?_|refine Zhj rfl ?_|(refine Zhh rfl ?_; (first|refine Zhg (Zat rfl) ?_|refine Zhg (Zar rfl) ?_))
  first|refine Zhi rfl ?_|refine Zhj rfl ?_|(refine Zhh rfl ?_; (first|refine Zhg (Zat rfl) ?_|refine Zhg (Zar rfl) ?_))
  first|refine Zhi rfl ?_|refine Zhj rfl ?_|(refine Zhh rfl ?_; (first|refine Zhg (Zmk rfl rfl) ?_|refine Zhg (Zbs rfl rfl) ?_))
  refine Zhn 50 rfl (decide_eq_false ((fun h => h rfl))) ?_
  first|refine Zhg (Zdz rfl rfl) ?_|refine Zhg (Zd0 rfl rfl) ?_|refine Zhg (Za8 rfl rfl) ?_|refine Zhg (Za9 rfl rfl) ?_|refine Zhg (Za6 rfl rfl) ?_|refine Zhg (Za7 rfl rfl) ?_
  first|refine Zhg (Zau rfl) ?_|refine Zhg (Zar rfl) ?_
  first|refine Zhi rfl ?_|refine Zhj rfl ?_|(refine Zhh rfl ?_; (first|refine Zhg (Zaw rfl) ?_|refine Zhg (Zar rfl) ?_))
  first|refine Zhi rfl ?_|refine Zhj rfl ?_|(refine Zhh rfl ?_; (first|refine Zhg (Zaw rfl) ?_|refine Zhg (Zar rfl) ?_))
  first|refine Zhi rfl ?_|refine Zhj rfl ?_|(refine Zhh rfl ?_; (refine Zh8 rfl (by kernel_rfl) (ebA sa sc) rfl qT ?_); (rintro _ _ ⟨rfl, rfl⟩); (refine Zg2 qA ?_))
  refine Zhm 55 rfl (decide_eq_true (rfl)) ?_
  first|refine Zhi rfl ?_|refine Zhj rfl ?_|(refine Zhh rfl ?_; (refine Zhg (Zb0 rfl) ?_))
  refine Zhn 56 rfl (rfl) ?_
  first|refine Zhg (Zdz rfl rfl) ?_|refine Zhg (Zd0 rfl rfl) ?_|refine Zhg (Za8 rfl rfl) ?_|refine Zhg (Za9 rfl rfl) ?_|refine Zhg (Za6 rfl rfl) ?_|refine Zhg (Za7 rfl rfl) ?_
  first|refine Zhg (Zau rfl) ?_|refine Zhg (Zar rfl) ?_
  first|refine Zhi rfl ?_|refine Zhj rfl ?_|(refine Zhh rfl ?_; (first|refine Zhg (Zaw rfl) ?_|refine Zhg (Zar rfl) ?_))
  first|refine Zhi rfl ?_|refine Zhj rfl ?_|(refine Zhh rfl ?_; (first|refine Zhg (Zaw rfl) ?_|refine Zhg (Zar rfl) ?_))
  first|refine Zhi rfl ?_|refine Zhj rfl ?_|(refine Zhh rfl ?_; (refine Zh8 rfl (by kernel_rfl) (ebA ua uc) rfl qT ?_); (rintro _ _ ⟨rfl, rfl⟩); (refine Zg2 qA ?_))
  refine Zhm 61 rfl (decide_eq_true (rfl)) ?_
  first|refine Zhi rfl ?_|refine Zhj rfl ?_|(refine Zhh rfl ?_; (refine Zhg (Zb0 rfl) ?_))
  refine Zhn 62 rfl (rfl) ?_
  first|refine Zhg (Zdz rfl rfl) ?_|refine Zhg (Zd0 rfl rfl) ?_|refine Zhg (Za8 rfl rfl) ?_|refine Zhg (Za9 rfl rfl) ?_|refine Zhg (Za6 rfl rfl) ?_|refine Zhg (Za7 rfl rfl) ?_
  first|refine Zhg (Zau rfl) ?_|refine Zhg (Zar rfl) ?_
  first|refine Zhi rfl ?_|refine Zhj rfl ?_|(refine Zhh rfl ?_; (first|refine Zhg (Zaw rfl) ?_|refine Zhg (Zar rfl) ?_))
  first|refine Zhi rfl ?_|refine Zhj rfl ?_|(refine Zhh rfl ?_; (first|refine Zhg (Zl8 rfl) ?_|refine Zhg (Zce rfl) ?_))
  first|refine Zhi rfl ?_|refine Zhj rfl ?_|(refine Zhh rfl ?_; (refine Zhp rfl qH (c2) ?_))
  first|refine Zhi rfl ?_|refine Zhj rfl ?_|(refine Zhh rfl ?_; (refine Zh8 rfl (by kernel_rfl) (kept_x (L := (cl gt ((spareL text).map u8b).toArray 5 :: L)) .here (hta.imp Imp.tail) (by omega)) rfl qT ?_); (rintro _ _ ⟨rfl, rfl⟩); (refine Zg2 qA ?_))
  first|refine Zhi rfl ?_|refine Zhj rfl ?_|(refine Zhh rfl ?_; (refine Zhg (Zb0 rfl) ?_))
  refine Zhn 69 rfl (rfl) ?_
  first|refine Zhg (Zdz rfl rfl) ?_|refine Zhg (Zd0 rfl rfl) ?_|refine Zhg (Za8 rfl rfl) ?_|refine Zhg (Za9 rfl rfl) ?_|refine Zhg (Za6 rfl rfl) ?_|refine Zhg (Za7 rfl rfl) ?_
  refine Zg3 ?_
  refine Ct.o ?_
  refine Zgf rfl ?_
  refine Ct.o ?_
  refine Zgb ?_
  first|refine Zhg (Zaz rfl) ?_|refine Zhg (Zas rfl) ?_
  refine Zg3 ?_
  refine Ct.o ?_
  rw [hsp]
  generalize (spareL text).drop text.length = tl at htail
  refine Zgo [(10, 10), (71, 87)] (by kernel_rfl) (fun s : Nat × List Byte => s.1 ≤ text.length ∧ s.2.length = text.length) (fun s => cl gt ((s.2 ++ tl).map u8b).toArray 5 :: own 5 1 (.slice ua S.length uc) S.length (S.map u8b) :: own 5 1 (.slice sa S.length sc) S.length (S.map u8b) :: cl b1 ((shc key p (.slice ta text.length tc)).toArray) 30 :: L)
    (fun s => [(10, nvv s.1)]) (fun s => text.length - s.1) (0, text) ⟨Nat.zero_le _, rfl⟩ qI ⟨rfl, trivial⟩ ?_
  rintro ⟨i, T⟩ u ⟨hi, hT⟩
  dsimp only at hi hT ⊢
  refine Ct.o ?_
  refine Zgb ?_
  first|refine Zhg (Zat rfl) ?_|refine Zhg (Zar rfl) ?_
  first|refine Zhg (Zaw rfl) ?_|refine Zhg (Zar rfl) ?_
  first|refine Zhg (Zcr rfl) ?_|refine Zhg (Zct) ?_|refine Zhg (Zcu rfl) ?_
  first|refine Zhg (Zmf rfl rfl) ?_|refine Zhg (Zbn rfl rfl) ?_
  refine Zg3 ?_
  refine Ct.o ?_
  refine Zgg rfl (fun hB => ?_) (fun hB => ?_)
  · have hg : (((T ++ tl).map u8b).toArray)[i]? = some (u8b (T[i]'(by omega))) := by
      rw [List.getElem?_toArray, List.getElem?_map, List.getElem?_append_left (by omega), List.getElem?_eq_getElem (by omega)]; rfl
    refine Ct.o ?_
    refine Zgb ?_
    first|refine Zhg (Zaw rfl) ?_|refine Zhg (Zar rfl) ?_
    first|refine Zhg (Zat rfl) ?_|refine Zhg (Zar rfl) ?_
    first|refine Zhg (Zaw rfl) ?_|refine Zhg (Zar rfl) ?_
    first|refine Zhg (Zat rfl) ?_|refine Zhg (Zar rfl) ?_
    first|refine Zhg (Zl4 rfl rfl) ?_|refine Zhg (Zl1 rfl rfl) ?_
    refine Zhp rfl qH (hg) ?_
    first|refine Zhg (Zat rfl) ?_|refine Zhg (Zar rfl) ?_
    first|refine Zhg (Zma (b := 1) rfl rfl) ?_|refine Zhg (Zbg rfl rfl) ?_
    refine Zhg (Zjs rfl) ?_
    refine Zhg (Zje rfl rfl) ?_
    first|refine Zhg (Zl4 rfl rfl) ?_|refine Zhg (Zl1 rfl rfl) ?_
    refine Zht rfl rfl qR qZ (setL (f := u8b)) ?_
    refine Zg3 ?_
    refine Ct.o ?_
    rw [List.set_append_left _ _ (by omega)]
    refine Ct.o ?_
    refine Zgb ?_
    first|refine Zhg (Zat rfl) ?_|refine Zhg (Zar rfl) ?_
    first|refine Zhg (Zma (b := 1) rfl rfl) ?_|refine Zhg (Zbg rfl rfl) ?_
    first|refine Zhg (Zaz rfl) ?_|refine Zhg (Zas rfl) ?_
    refine Zg3 ?_
    refine Ct.o ?_
    exact Zgl (i + 1, T.set i (T[i]'(by omega) ^^^ BitVec.ofInt 8 ((i + 1 : Nat) : Int))) qO ⟨by dsimp only; omega, by dsimp only; rw [List.length_set]; exact hT⟩ qI ⟨rfl, trivial⟩
  · refine Ct.o ?_
    rw [hn] at htl hT ⊢
    refine Zgp (Imp.own_mk (n := n) (cap := n + 80) (size := 1) (xs := T.map u8b) (by omega) (by omega) (by simp; omega) (by simp; rw [List.take_append_of_le_length (by simp; omega)]; exact List.take_of_length_le (by simp; omega))) ?_
    have eT : own 5 1 (.slice (some ⟨gt, 0, none⟩) n (n + 80)) n (T.map u8b) = ownP (some ⟨gt, 0, none⟩, n + 80, T) := by unfold ownP vP; dsimp only; rw [hT]
    rw [hn] at c0 c1 c2 hlen
    have hq3 := fun a c => pgSealRef_x (L := [own 5 1 (.slice a T.length c) T.length (T.map u8b)]) key hk p (Bs.own .here) (by omega)
    have hq4 := pgSeal_x (L := [own 5 1 (.slice (some ⟨gt, 0, none⟩) n (n + 80)) n (T.map u8b)]) key hk p (bs_own .here hT) (by omega)
    have hR2 := pgSealR_len key p T
    generalize pgSealR key p T = R2 at hq3 hq4 hR2
    obtain ⟨S2, e2⟩ := R2
    dsimp only at hq3 hq4 hR2
    have hcp := copyBytes_x (L := [own 5 1 (.slice (some ⟨gt, 0, none⟩) n (n + 80)) n (T.map u8b)]) (l := T) (bs_own .here hT) (by omega)
    refine Ct.o ?_
    refine Zij ([cl b1 ((shc key p (.slice ta n tc)).toArray) 30]) [3, 5] (.q 0 (.q 2 (.q 4 (.r 1 (.r 3 (.e 5 true (.e 6 false (.q 7 (.q 8 (.q 9 (.q 10 (.q 11 .nil)))))))))))) (by kernel_rfl) (by kernel_rfl) (Imp.arr qV) ?_
    first|refine Zim rfl (Zl8 rfl) ?_|refine Zim rfl (Zce rfl) ?_
    first|refine Zim rfl (Zl8 rfl) ?_|refine Zim rfl (Zce rfl) ?_
    first|refine Zim rfl (Zaw rfl) ?_|refine Zim rfl (Zar rfl) ?_
    refine Zix (n := 32) rfl rfl qH qZ (c0) ?_
    refine Zix (n := 4) rfl rfl qH qZ (c1) ?_
    refine Ziq rfl ?_
    refine Zh8 rfl (by kernel_rfl) (hcp) rfl qT ?_
    rintro _ _ ⟨ca, cc, rfl, rfl⟩
    refine Zg2 qA ?_
    refine Zg3 ⟨fun _ => Imp.arr qV, ?_⟩
    refine Ziq rfl ?_
    refine Zh8 rfl (by kernel_rfl) (hq3 ca cc) rfl qT ?_
    rintro _ _ ⟨qa, qc, rfl, rfl⟩
    refine Zg2 qA ?_
    refine Zg3 ⟨(fun hh => Bool.noConfusion hh), ?_⟩
    first|refine Zim rfl (Zmm rfl) ?_|refine Zim rfl (Zar rfl) ?_
    refine Zim rfl (Zco rfl rfl) ?_
    refine Zim rfl (Zco rfl rfl) ?_
    first|refine Zim rfl (Za2 rfl) ?_|refine Zim rfl (Zas rfl) ?_
    first|refine Zim rfl (Zaz rfl) ?_|refine Zim rfl (Zas rfl) ?_
    refine Zik ?_
    refine Ct.o ?_
    refine Zgb ?_
    first|refine Zhg (Zl8 rfl) ?_|refine Zhg (Zce rfl) ?_
    refine Zhq (n := 32) rfl qH qZ (c0) ?_
    first|refine Zhg (Zl8 rfl) ?_|refine Zhg (Zce rfl) ?_
    refine Zhq (n := 4) rfl qH qZ (c1) ?_
    first|refine Zhg (Zaw rfl) ?_|refine Zhg (Zar rfl) ?_
    refine Zh8 rfl (by kernel_rfl) (hq4) rfl qT ?_
    rintro _ _ ⟨wa, wc, rfl, rfl⟩
    refine Zg2 qA ?_
    first|refine Zhg (Zmm rfl) ?_|refine Zhg (Zar rfl) ?_
    refine Zhg (Zco rfl rfl) ?_
    refine Zhg (Zco rfl rfl) ?_
    first|refine Zhg (Za2 rfl) ?_|refine Zhg (Zas rfl) ?_
    first|refine Zhg (Zaz rfl) ?_|refine Zhg (Zas rfl) ?_
    refine Zg3 ?_
    refine Ct.o ?_
    have ebC := eqBytes_x (L := [own 5 1 (.slice wa S2.length wc) S2.length (S2.map u8b), own 5 1 (.slice qa S2.length qc) S2.length (S2.map u8b)]) (a := S2) (b := S2) (Bs.own .here) (Bs.own (.there .here))
    refine Ct.o ?_
    refine Zgb ?_
    first|refine Zhg (Zat rfl) ?_|refine Zhg (Zar rfl) ?_
    first|refine Zhg (Zat rfl) ?_|refine Zhg (Zar rfl) ?_
    first|refine Zhg (Zmj rfl rfl) ?_|refine Zhg (Zbr rfl rfl) ?_
    refine Zhm 109 rfl (decide_eq_true (rfl)) ?_
    first|refine Zhg (Zau rfl) ?_|refine Zhg (Zar rfl) ?_
    first|refine Zhi rfl ?_|refine Zhj rfl ?_|(refine Zhh rfl ?_; (first|refine Zhg (Zaw rfl) ?_|refine Zhg (Zar rfl) ?_))
    first|refine Zhi rfl ?_|refine Zhj rfl ?_|(refine Zhh rfl ?_; (first|refine Zhg (Zaw rfl) ?_|refine Zhg (Zar rfl) ?_))
    first|refine Zhi rfl ?_|refine Zhj rfl ?_|(refine Zhh rfl ?_; (refine Zh8 rfl (by kernel_rfl) (ebC) rfl qT ?_); (rintro _ _ ⟨rfl, rfl⟩); (refine Zg2 qA ?_))
    refine Zhm 113 rfl (decide_eq_true (rfl)) ?_
    first|refine Zhg (Zdz rfl rfl) ?_|refine Zhg (Zd0 rfl rfl) ?_|refine Zhg (Za8 rfl rfl) ?_|refine Zhg (Za9 rfl rfl) ?_|refine Zhg (Za6 rfl rfl) ?_|refine Zhg (Za7 rfl rfl) ?_
    first|refine Zhg (Zau rfl) ?_|refine Zhg (Zar rfl) ?_
    first|refine Zhi rfl ?_|refine Zhj rfl ?_|(refine Zhh rfl ?_; (first|refine Zhg (Zaw rfl) ?_|refine Zhg (Zar rfl) ?_))
    first|refine Zhi rfl ?_|refine Zhj rfl ?_|(refine Zhh rfl ?_; (first|refine Zhg (Zaw rfl) ?_|refine Zhg (Zar rfl) ?_))
    first|refine Zhi rfl ?_|refine Zhj rfl ?_|(refine Zhh rfl ?_; (first|refine Zhg (Zaw rfl) ?_|refine Zhg (Zar rfl) ?_))
    first|refine Zhi rfl ?_|refine Zhj rfl ?_|(refine Zhh rfl ?_; (first|refine Zhg (Zaw rfl) ?_|refine Zhg (Zar rfl) ?_))
    rw [eT]; refine Zgw (Imp.arr (N := own 5 1 (.slice sa S.length sc) S.length (S.map u8b) :: own 5 1 (.slice ua S.length uc) S.length (S.map u8b) :: own 5 1 (.slice wa S2.length wc) S2.length (S2.map u8b) :: ownP (some ⟨gt, 0, none⟩, n + 80, T) :: L) qV) ?_; refine Zgw (Imp.cons (Imp.cons (Imp.cons (Imp.cons (star_nil (A := ownP)))))) ?_; refine Zgw (Imp.cons (Imp.cons (Imp.cons (star_cons (A := ownP) (x := (some ⟨gt, 0, none⟩, n + 80, T)))))) ?_; refine Zgw (Imp.cons (Imp.cons (star_cons (A := ownP) (x := (wa, wc, S2))))) ?_; refine Zgw (Imp.cons (star_cons (A := ownP) (x := (ua, uc, S)))) ?_; refine Zgw (star_cons (A := ownP) (x := (sa, sc, S))) ?_; refine Zhh rfl ?_; refine Zh7 (cs := #[.slice _ _ _, .slice _ _ _, .slice _ _ _, .slice _ _ _]) (by omega) (by omega) rfl ?_; intro b120
    first|refine Zhi rfl ?_|refine Zhj rfl ?_|(refine Zhh rfl ?_; (refine Zh8 rfl (by kernel_rfl) (apart_x (N := 4) (L := [cl b120 #[.slice sa S.length sc, .slice ua S.length uc, .slice wa S2.length wc, .slice (some ⟨gt, 0, none⟩) n (n + 80)] 28]) [(sa, sc, S), (ua, uc, S), (wa, wc, S2), (some ⟨gt, 0, none⟩, n + 80, T)] rfl (by omega) (by intro p hp; simp only [List.mem_cons, List.not_mem_nil, or_false] at hp; rcases hp with rfl|rfl|rfl|rfl <;> (dsimp only; omega)) (Rd.cl (o := 0) .here rfl (by simp) (by simp [vP, hT]))) rfl qT ?_); (rintro _ _ ⟨rfl, rfl⟩); (refine Zg2 qA ?_))
    first|refine Zhg (Zdz rfl rfl) ?_|refine Zhg (Zd0 rfl rfl) ?_|refine Zhg (Za8 rfl rfl) ?_|refine Zhg (Za9 rfl rfl) ?_|refine Zhg (Za6 rfl rfl) ?_|refine Zhg (Za7 rfl rfl) ?_
    first|refine Zhg (Zau rfl) ?_|refine Zhg (Zar rfl) ?_
    first|refine Zhi rfl ?_|refine Zhj rfl ?_|(refine Zhh rfl ?_; (refine Zh8 rfl (by kernel_rfl) (pgWorks_x) rfl qT ?_); (rintro _ _ ⟨rfl, rfl⟩); (refine Zg2 qA ?_))
    first|refine Zhg (Zdz rfl rfl) ?_|refine Zhg (Zd0 rfl rfl) ?_|refine Zhg (Za8 rfl rfl) ?_|refine Zhg (Za9 rfl rfl) ?_|refine Zhg (Za6 rfl rfl) ?_|refine Zhg (Za7 rfl rfl) ?_
    first|refine Zhg (Za0 rfl) ?_|refine Zhg (Zas rfl) ?_
    refine Zg3 ?_
    refine Ct.o ?_
    refine rx1 (Zha rfl (Zg7)) ?_
    exact ⟨_, ⟨rfl, rfl⟩, qI⟩
theorem pgOpens_g {L : List Asrt} (key : List Byte) (hk : key.length = 32) (p : Plc) {vt : Value} {text : List Byte} (hta : Bs L vt text) (htl : text.length ≤ 140737488351232) :
    Con Tryz.prog 4 [.agg (shc key p vt).toArray] L (fun r M => r = .bool true ∧ L = M) := by
  obtain ⟨n, hn⟩ : ∃ n, text.length = n := ⟨_, rfl⟩
  refine Con.get (fun w0 w F H => hta.sh _ _ _ H) ?_
  rintro ⟨ta, tc, rfl, htc1, htc2⟩
  have hlen := shc_len (p := p) (v := .slice ta text.length tc) hk
  have c0 := shc_key (p := p) (v := .slice ta text.length tc) hk
  have c1 := shc_place (p := p) (v := .slice ta text.length tc) hk
  have c2 := shc_b (p := p) (v := .slice ta text.length tc) hk
  have hs3 := pgOpenRef_x (L := L) key hk p hta htl
  have hs4 := fun gt => pgOpen_x (L := [cl gt ((spareL text).map u8b).toArray 5]) key hk p (bs_spare .here (by omega)) htl
  have hh3 := headRef_x (L := L) hta htl
  have hh4 := fun gt => pgHead_x (L := [cl gt ((spareL text).map u8b).toArray 5]) (bs_spare (l := text) .here (by omega)) htl
  have hRl := pgOpenR_len key p text
  generalize pgOpenR key p text = R at hs3 hs4 hRl
  obtain ⟨S, e⟩ := R
  generalize pgHeadR text = RH at hh3 hh4
  obtain ⟨q1, q2, q3⟩ := RH
  dsimp only at hs3 hs4 hRl hh3 hh4
  have hsp : spareL text = text ++ (spareL text).drop text.length := by
    conv => lhs; rw [← List.take_append_drop text.length (spareL text), spareL_take]
  have htail : ((spareL text).drop text.length).length = 80 := by rw [List.length_drop, spareL_len]; omega
  refine fn_x Tryz.func4 rfl rfl rfl Tryz.mixed (by kernel_rfl) ?_
  intro w0
  refine Ct.o ?_
  refine Zgb ?_
  refine Zh5 rfl ?_; intro b1
  first|refine Zhg (Za0 rfl) ?_|refine Zhg (Zas rfl) ?_
  refine Zg3 ?_
  refine Ct.o ?_
  refine Zgb ?_
  first|refine Zhg (Zl8 rfl) ?_|refine Zhg (Zce rfl) ?_
  refine Zhq (n := 32) rfl qH qZ (c0) ?_
  first|refine Zhg (Zl8 rfl) ?_|refine Zhg (Zce rfl) ?_
  refine Zhq (n := 4) rfl qH qZ (c1) ?_
  first|refine Zhg (Zl8 rfl) ?_|refine Zhg (Zce rfl) ?_
  refine Zhp rfl qH (c2) ?_
  refine Zh8 rfl (by kernel_rfl) (hs3) rfl qT ?_
  rintro _ _ ⟨ra, rc, rfl, rfl⟩
  refine Zg2 qA ?_
  first|refine Zhg (Zmm rfl) ?_|refine Zhg (Zar rfl) ?_
  refine Zhg (Zco rfl rfl) ?_
  refine Zhg (Zco rfl rfl) ?_
  first|refine Zhg (Za2 rfl) ?_|refine Zhg (Zas rfl) ?_
  first|refine Zhg (Zaz rfl) ?_|refine Zhg (Zas rfl) ?_
  refine Zg3 ?_
  refine Ct.o ?_
  refine Zgb ?_
  first|refine Zhg (Zl8 rfl) ?_|refine Zhg (Zce rfl) ?_
  refine Zhp rfl qH (c2) ?_
  refine Zh8 rfl (by kernel_rfl) (hh3) rfl qT ?_
  rintro _ _ ⟨rfl, rfl⟩
  refine Zg2 qA ?_
  first|refine Zhg (Zmm rfl) ?_|refine Zhg (Zar rfl) ?_
  refine Zhg (Zco rfl rfl) ?_
  refine Zhg (Zco rfl rfl) ?_
  refine Zhg (Zco rfl rfl) ?_
  first|refine Zhg (Zaz rfl) ?_|refine Zhg (Zas rfl) ?_
  first|refine Zhg (Zaz rfl) ?_|refine Zhg (Zas rfl) ?_
  first|refine Zhg (Zaz rfl) ?_|refine Zhg (Zas rfl) ?_
  refine Zg3 ?_
  refine Ct.o ?_
  refine Zgb ?_
  first|refine Zhg (Zl8 rfl) ?_|refine Zhg (Zce rfl) ?_
  refine Zhp rfl qH (c2) ?_
  refine Zh8 rfl (by kernel_rfl) (spare_x (L := L) hta (by omega)) rfl qT ?_
  rintro _ _ ⟨gt, rfl, rfl⟩
  refine Zg2 qA ?_
  first|refine Zhg (Za2 rfl) ?_|refine Zhg (Zas rfl) ?_
  refine Zg3 ?_
  refine Ct.o ?_
  refine Zgb ?_
  first|refine Zhg (Zl8 rfl) ?_|refine Zhg (Zce rfl) ?_
  refine Zhq (n := 32) rfl qH qZ (c0) ?_
  first|refine Zhg (Zl8 rfl) ?_|refine Zhg (Zce rfl) ?_
  refine Zhq (n := 4) rfl qH qZ (c1) ?_
  first|refine Zhg (Zaw rfl) ?_|refine Zhg (Zar rfl) ?_
  refine Zh8 rfl (by kernel_rfl) (hs4 gt) rfl qT ?_
  rintro _ _ ⟨sa, sc, rfl, rfl⟩
  refine Zg2 qA ?_
  first|refine Zhg (Zmm rfl) ?_|refine Zhg (Zar rfl) ?_
  refine Zhg (Zco rfl rfl) ?_
  refine Zhg (Zco rfl rfl) ?_
  first|refine Zhg (Za2 rfl) ?_|refine Zhg (Zas rfl) ?_
  first|refine Zhg (Zaz rfl) ?_|refine Zhg (Zas rfl) ?_
  refine Zg3 ?_
  refine Ct.o ?_
  refine Zgb ?_
  first|refine Zhg (Zl8 rfl) ?_|refine Zhg (Zce rfl) ?_
  refine Zhq (n := 32) rfl qH qZ (c0) ?_
  first|refine Zhg (Zl8 rfl) ?_|refine Zhg (Zce rfl) ?_
  refine Zhq (n := 4) rfl qH qZ (c1) ?_
  first|refine Zhg (Zaw rfl) ?_|refine Zhg (Zar rfl) ?_
  refine Zh8 rfl (by kernel_rfl) (hs4 gt) rfl qT ?_
  rintro _ _ ⟨ua, uc, rfl, rfl⟩
  refine Zg2 qA ?_
  first|refine Zhg (Zmm rfl) ?_|refine Zhg (Zar rfl) ?_
  refine Zhg (Zco rfl rfl) ?_
  refine Zhg (Zco rfl rfl) ?_
  first|refine Zhg (Za2 rfl) ?_|refine Zhg (Zas rfl) ?_
  first|refine Zhg (Zaz rfl) ?_|refine Zhg (Zas rfl) ?_
  refine Zg3 ?_
  refine Ct.o ?_
  refine Zgb ?_
  first|refine Zhg (Zaw rfl) ?_|refine Zhg (Zar rfl) ?_
  refine Zh8 rfl (by kernel_rfl) (hh4 gt) rfl qT ?_
  rintro _ _ ⟨rfl, rfl⟩
  refine Zg2 qA ?_
  first|refine Zhg (Zmm rfl) ?_|refine Zhg (Zar rfl) ?_
  refine Zhg (Zco rfl rfl) ?_
  refine Zhg (Zco rfl rfl) ?_
  refine Zhg (Zco rfl rfl) ?_
  first|refine Zhg (Zaz rfl) ?_|refine Zhg (Zas rfl) ?_
  first|refine Zhg (Zaz rfl) ?_|refine Zhg (Zas rfl) ?_
  first|refine Zhg (Zaz rfl) ?_|refine Zhg (Zas rfl) ?_
  refine Zg3 ?_
  refine Ct.o ?_
  have ebA := fun (sa : Option Addr) sc => eqBytes_x (L := [own 5 1 (.slice sa S.length sc) S.length (S.map u8b), own 5 1 (.slice ra S.length rc) S.length (S.map u8b)]) (a := S) (b := S) (Bs.own .here) (Bs.own (.there .here))
  refine Ct.o ?_
  refine Zgb ?_
  first|refine Zhg (Zat rfl) ?_|refine Zhg (Zar rfl) ?_
  first|refine Zhg (Zat rfl) ?_|refine Zhg (Zar rfl) ?_
  first|refine Zhg (Zmk rfl rfl) ?_|refine Zhg (Zbs rfl rfl) ?_
  refine Zhn 65 rfl (decide_eq_false ((fun h => h rfl))) ?_
  first|refine Zhg (Zau rfl) ?_|refine Zhg (Zar rfl) ?_
  first|refine Zhi rfl ?_|refine Zhj rfl ?_|(refine Zhh rfl ?_; (first|refine Zhg (Zat rfl) ?_|refine Zhg (Zar rfl) ?_))
  first|refine Zhi rfl ?_|refine Zhj rfl ?_|(refine Zhh rfl ?_; (first|refine Zhg (Zat rfl) ?_|refine Zhg (Zar rfl) ?_))
  first|refine Zhi rfl ?_|refine Zhj rfl ?_|(refine Zhh rfl ?_; (first|refine Zhg (Zmk rfl rfl) ?_|refine Zhg (Zbs rfl rfl) ?_))
  refine Zhn 69 rfl (decide_eq_false ((fun h => h rfl))) ?_
  first|refine Zhg (Zdz rfl rfl) ?_|refine Zhg (Zd0 rfl rfl) ?_|refine Zhg (Za8 rfl rfl) ?_|refine Zhg (Za9 rfl rfl) ?_|refine Zhg (Za6 rfl rfl) ?_|refine Zhg (Za7 rfl rfl) ?_
  first|refine Zhg (Zau rfl) ?_|refine Zhg (Zar rfl) ?_
  first|refine Zhi rfl ?_|refine Zhj rfl ?_|(refine Zhh rfl ?_; (first|refine Zhg (Zat rfl) ?_|refine Zhg (Zar rfl) ?_))
  first|refine Zhi rfl ?_|refine Zhj rfl ?_|(refine Zhh rfl ?_; (first|refine Zhg (Zat rfl) ?_|refine Zhg (Zar rfl) ?_))
  first|refine Zhi rfl ?_|refine Zhj rfl ?_|(refine Zhh rfl ?_; (first|refine Zhg (Zmk rfl rfl) ?_|refine Zhg (Zbs rfl rfl) ?_))
  refine Zhn 74 rfl (decide_eq_false ((fun h => h rfl))) ?_
  first|refine Zhg (Zdz rfl rfl) ?_|refine Zhg (Zd0 rfl rfl) ?_|refine Zhg (Za8 rfl rfl) ?_|refine Zhg (Za9 rfl rfl) ?_|refine Zhg (Za6 rfl rfl) ?_|refine Zhg (Za7 rfl rfl) ?_
  first|refine Zhg (Zau rfl) ?_|refine Zhg (Zar rfl) ?_
  first|refine Zhi rfl ?_|refine Zhj rfl ?_|(refine Zhh rfl ?_; (first|refine Zhg (Zat rfl) ?_|refine Zhg (Zar rfl) ?_))
  first|refine Zhi rfl ?_|refine Zhj rfl ?_|(refine Zhh rfl ?_; (first|refine Zhg (Zat rfl) ?_|refine Zhg (Zar rfl) ?_))
  first|refine Zhi rfl ?_|refine Zhj rfl ?_|(refine Zhh rfl ?_; (refine Zhg (Zlo (x := q1) (y := q1) rfl rfl) ?_))
  refine Zhn 79 rfl (decide_eq_false ((fun h => h rfl))) ?_
  first|refine Zhg (Zdz rfl rfl) ?_|refine Zhg (Zd0 rfl rfl) ?_|refine Zhg (Za8 rfl rfl) ?_|refine Zhg (Za9 rfl rfl) ?_|refine Zhg (Za6 rfl rfl) ?_|refine Zhg (Za7 rfl rfl) ?_
  first|refine Zhg (Zau rfl) ?_|refine Zhg (Zar rfl) ?_
  first|refine Zhi rfl ?_|refine Zhj rfl ?_|(refine Zhh rfl ?_; (first|refine Zhg (Zat rfl) ?_|refine Zhg (Zar rfl) ?_))
  first|refine Zhi rfl ?_|refine Zhj rfl ?_|(refine Zhh rfl ?_; (first|refine Zhg (Zat rfl) ?_|refine Zhg (Zar rfl) ?_))
  first|refine Zhi rfl ?_|refine Zhj rfl ?_|(refine Zhh rfl ?_; (refine Zhg (Zkz (x := q2) (y := q2) rfl rfl) ?_))
  refine Zhn 84 rfl (decide_eq_false ((fun h => h rfl))) ?_
  first|refine Zhg (Zdz rfl rfl) ?_|refine Zhg (Zd0 rfl rfl) ?_|refine Zhg (Za8 rfl rfl) ?_|refine Zhg (Za9 rfl rfl) ?_|refine Zhg (Za6 rfl rfl) ?_|refine Zhg (Za7 rfl rfl) ?_
  first|refine Zhg (Zau rfl) ?_|refine Zhg (Zar rfl) ?_
  first|refine Zhi rfl ?_|refine Zhj rfl ?_|(refine Zhh rfl ?_; (first|refine Zhg (Zaw rfl) ?_|refine Zhg (Zar rfl) ?_))
  first|refine Zhi rfl ?_|refine Zhj rfl ?_|(refine Zhh rfl ?_; (first|refine Zhg (Zaw rfl) ?_|refine Zhg (Zar rfl) ?_))
  first|refine Zhi rfl ?_|refine Zhj rfl ?_|(refine Zhh rfl ?_; (refine Zh8 rfl (by kernel_rfl) (ebA sa sc) rfl qT ?_); (rintro _ _ ⟨rfl, rfl⟩); (refine Zg2 qA ?_))
  refine Zhm 89 rfl (decide_eq_true (rfl)) ?_
  first|refine Zhi rfl ?_|refine Zhj rfl ?_|(refine Zhh rfl ?_; (refine Zhg (Zb0 rfl) ?_))
  refine Zhn 90 rfl (rfl) ?_
  first|refine Zhg (Zdz rfl rfl) ?_|refine Zhg (Zd0 rfl rfl) ?_|refine Zhg (Za8 rfl rfl) ?_|refine Zhg (Za9 rfl rfl) ?_|refine Zhg (Za6 rfl rfl) ?_|refine Zhg (Za7 rfl rfl) ?_
  first|refine Zhg (Zau rfl) ?_|refine Zhg (Zar rfl) ?_
  first|refine Zhi rfl ?_|refine Zhj rfl ?_|(refine Zhh rfl ?_; (first|refine Zhg (Zaw rfl) ?_|refine Zhg (Zar rfl) ?_))
  first|refine Zhi rfl ?_|refine Zhj rfl ?_|(refine Zhh rfl ?_; (first|refine Zhg (Zaw rfl) ?_|refine Zhg (Zar rfl) ?_))
  first|refine Zhi rfl ?_|refine Zhj rfl ?_|(refine Zhh rfl ?_; (refine Zh8 rfl (by kernel_rfl) (ebA ua uc) rfl qT ?_); (rintro _ _ ⟨rfl, rfl⟩); (refine Zg2 qA ?_))
  refine Zhm 95 rfl (decide_eq_true (rfl)) ?_
  first|refine Zhi rfl ?_|refine Zhj rfl ?_|(refine Zhh rfl ?_; (refine Zhg (Zb0 rfl) ?_))
  refine Zhn 96 rfl (rfl) ?_
  first|refine Zhg (Zdz rfl rfl) ?_|refine Zhg (Zd0 rfl rfl) ?_|refine Zhg (Za8 rfl rfl) ?_|refine Zhg (Za9 rfl rfl) ?_|refine Zhg (Za6 rfl rfl) ?_|refine Zhg (Za7 rfl rfl) ?_
  first|refine Zhg (Zau rfl) ?_|refine Zhg (Zar rfl) ?_
  first|refine Zhi rfl ?_|refine Zhj rfl ?_|(refine Zhh rfl ?_; (first|refine Zhg (Zaw rfl) ?_|refine Zhg (Zar rfl) ?_))
  first|refine Zhi rfl ?_|refine Zhj rfl ?_|(refine Zhh rfl ?_; (first|refine Zhg (Zl8 rfl) ?_|refine Zhg (Zce rfl) ?_))
  first|refine Zhi rfl ?_|refine Zhj rfl ?_|(refine Zhh rfl ?_; (refine Zhp rfl qH (c2) ?_))
  first|refine Zhi rfl ?_|refine Zhj rfl ?_|(refine Zhh rfl ?_; (refine Zh8 rfl (by kernel_rfl) (kept_x (L := (cl gt ((spareL text).map u8b).toArray 5 :: L)) .here (hta.imp Imp.tail) (by omega)) rfl qT ?_); (rintro _ _ ⟨rfl, rfl⟩); (refine Zg2 qA ?_))
  first|refine Zhi rfl ?_|refine Zhj rfl ?_|(refine Zhh rfl ?_; (refine Zhg (Zb0 rfl) ?_))
  refine Zhn 103 rfl (rfl) ?_
  first|refine Zhg (Zdz rfl rfl) ?_|refine Zhg (Zd0 rfl rfl) ?_|refine Zhg (Za8 rfl rfl) ?_|refine Zhg (Za9 rfl rfl) ?_|refine Zhg (Za6 rfl rfl) ?_|refine Zhg (Za7 rfl rfl) ?_
  refine Zg3 ?_
  refine Ct.o ?_
  refine Zgf rfl ?_
  refine Ct.o ?_
  refine Zgb ?_
  first|refine Zhg (Zaw rfl) ?_|refine Zhg (Zar rfl) ?_
  refine Zh8 rfl (by kernel_rfl) (copyBytes_x (L := [cl gt ((spareL text).map u8b).toArray 5]) (bs_spare (l := text) .here (by omega)) (by omega)) rfl qT ?_
  rintro _ _ ⟨na, nc, rfl, rfl⟩
  refine Zg2 qA ?_
  first|refine Zhg (Za2 rfl) ?_|refine Zhg (Zas rfl) ?_
  refine Zg3 ?_
  refine Ct.o ?_
  refine Zgb ?_
  first|refine Zhg (Zaz rfl) ?_|refine Zhg (Zas rfl) ?_
  refine Zg3 ?_
  refine Ct.o ?_
  rw [hsp]
  generalize (spareL text).drop text.length = tl at htail
  refine Zgo [(17, 17), (107, 127)] (by kernel_rfl) (fun s : Nat × List Byte => s.1 ≤ text.length ∧ s.2.length = text.length) (fun s => cl gt ((s.2 ++ tl).map u8b).toArray 5 :: own 5 1 (.slice na text.length nc) text.length (s.2.map u8b) :: own 5 1 (.slice ua S.length uc) S.length (S.map u8b) :: own 5 1 (.slice sa S.length sc) S.length (S.map u8b) :: cl b1 ((shc key p (.slice ta text.length tc)).toArray) 30 :: L)
    (fun s => [(17, nvv s.1)]) (fun s => text.length - s.1) (0, text) ⟨Nat.zero_le _, rfl⟩ qI ⟨rfl, trivial⟩ ?_
  rintro ⟨i, T⟩ u ⟨hi, hT⟩
  dsimp only at hi hT ⊢
  refine Ct.o ?_
  refine Zgb ?_
  first|refine Zhg (Zat rfl) ?_|refine Zhg (Zar rfl) ?_
  first|refine Zhg (Zaw rfl) ?_|refine Zhg (Zar rfl) ?_
  first|refine Zhg (Zcr rfl) ?_|refine Zhg (Zct) ?_|refine Zhg (Zcu rfl) ?_
  first|refine Zhg (Zmf rfl rfl) ?_|refine Zhg (Zbn rfl rfl) ?_
  refine Zg3 ?_
  refine Ct.o ?_
  refine Zgg rfl (fun hB => ?_) (fun hB => ?_)
  · refine Zgt (fun F w H => own_some (n := text.length) (a := na) qH (by omega) H) ?_
    rintro ⟨gn, rfl⟩
    have hg2 : (T.map u8b)[i]? = some (u8b (T[i]'(by omega))) := by rw [List.getElem?_map, List.getElem?_eq_getElem (by omega)]; rfl
    have hg3 : ((T.set i (T[i]'(by omega) ^^^ 255#8)).map u8b)[i]? = some (u8b (T[i]'(by omega) ^^^ 255#8)) := by rw [List.getElem?_map, List.getElem?_set_self (by omega)]; rfl
    refine Ct.o ?_
    refine Zgb ?_
    first|refine Zhg (Zaw rfl) ?_|refine Zhg (Zar rfl) ?_
    first|refine Zhg (Zat rfl) ?_|refine Zhg (Zar rfl) ?_
    first|refine Zhg (Zaw rfl) ?_|refine Zhg (Zar rfl) ?_
    first|refine Zhg (Zat rfl) ?_|refine Zhg (Zar rfl) ?_
    first|refine Zhg (Zl4 rfl rfl) ?_|refine Zhg (Zl1 rfl rfl) ?_
    refine Zff rfl (((Rd.own (n := text.length) qH).at0 hB hg2)) ?_
    refine Zhg (Zje (y := 255#8) rfl rfl) ?_
    first|refine Zhg (Zl4 rfl rfl) ?_|refine Zhg (Zl1 rfl rfl) ?_
    refine Zm7 (u := u8b (T[i]'(by omega) ^^^ 255#8)) (i := i) (xs := T.map u8b) (ys := (T.set i (T[i]'(by omega) ^^^ 255#8)).map u8b) rfl rfl rfl qR hB (by rw [List.map_set]) ?_
    refine Zg3 ?_
    refine Ct.o ?_
    refine Zgb ?_
    first|refine Zhg (Zaw rfl) ?_|refine Zhg (Zar rfl) ?_
    first|refine Zhg (Zat rfl) ?_|refine Zhg (Zar rfl) ?_
    first|refine Zhg (Zaw rfl) ?_|refine Zhg (Zar rfl) ?_
    first|refine Zhg (Zat rfl) ?_|refine Zhg (Zar rfl) ?_
    first|refine Zhg (Zl4 rfl rfl) ?_|refine Zhg (Zl1 rfl rfl) ?_
    refine Zff rfl (((Rd.own (n := text.length) qH).at0 hB hg3)) ?_
    first|refine Zhg (Zl4 rfl rfl) ?_|refine Zhg (Zl1 rfl rfl) ?_
    refine Zht rfl rfl qR qZ (setL (f := u8b)) ?_
    refine Zg3 ?_
    refine Ct.o ?_
    rw [List.set_append_left _ _ (by omega)]
    refine Ct.o ?_
    refine Zgb ?_
    first|refine Zhg (Zat rfl) ?_|refine Zhg (Zar rfl) ?_
    first|refine Zhg (Zma (b := 1) rfl rfl) ?_|refine Zhg (Zbg rfl rfl) ?_
    first|refine Zhg (Zaz rfl) ?_|refine Zhg (Zas rfl) ?_
    refine Zg3 ?_
    refine Ct.o ?_
    exact Zgl (i + 1, T.set i (T[i]'(by omega) ^^^ 255#8)) qO ⟨by dsimp only; omega, by dsimp only; rw [List.length_set]; exact hT⟩ qI ⟨rfl, trivial⟩
  · refine Ct.o ?_
    rw [hn] at htl hT ⊢
    refine Zgp (Imp.own_mk (n := n) (cap := n + 80) (size := 1) (xs := T.map u8b) (by omega) (by omega) (by simp; omega) (by simp; rw [List.take_append_of_le_length (by simp; omega)]; exact List.take_of_length_le (by simp; omega))) ?_
    have eT : own 5 1 (.slice (some ⟨gt, 0, none⟩) n (n + 80)) n (T.map u8b) = ownP (some ⟨gt, 0, none⟩, n + 80, T) := by unfold ownP vP; dsimp only; rw [hT]
    rw [hn] at c0 c1 c2 hlen
    have hq3 := pgOpenRef_x (L := [own 5 1 (.slice na n nc) n (T.map u8b)]) key hk p (bs_own .here hT) (by omega)
    have hq4 := pgOpen_x (L := [own 5 1 (.slice (some ⟨gt, 0, none⟩) n (n + 80)) n (T.map u8b)]) key hk p (bs_own .here hT) (by omega)
    have hR2 := pgOpenR_len key p T
    generalize pgOpenR key p T = R2 at hq3 hq4 hR2
    obtain ⟨S2, e2⟩ := R2
    dsimp only at hq3 hq4 hR2
    refine Ct.o ?_
    refine Zgb ?_
    first|refine Zhg (Zl8 rfl) ?_|refine Zhg (Zce rfl) ?_
    refine Zhq (n := 32) rfl qH qZ (c0) ?_
    first|refine Zhg (Zl8 rfl) ?_|refine Zhg (Zce rfl) ?_
    refine Zhq (n := 4) rfl qH qZ (c1) ?_
    first|refine Zhg (Zaw rfl) ?_|refine Zhg (Zar rfl) ?_
    refine Zh8 rfl (by kernel_rfl) (hq3) rfl qT ?_
    rintro _ _ ⟨qa, qc, rfl, rfl⟩
    refine Zg2 qA ?_
    first|refine Zhg (Zmm rfl) ?_|refine Zhg (Zar rfl) ?_
    refine Zhg (Zco rfl rfl) ?_
    refine Zhg (Zco rfl rfl) ?_
    first|refine Zhg (Za2 rfl) ?_|refine Zhg (Zas rfl) ?_
    first|refine Zhg (Zaz rfl) ?_|refine Zhg (Zas rfl) ?_
    refine Zg3 ?_
    refine Ct.o ?_
    refine Zgb ?_
    first|refine Zhg (Zl8 rfl) ?_|refine Zhg (Zce rfl) ?_
    refine Zhq (n := 32) rfl qH qZ (c0) ?_
    first|refine Zhg (Zl8 rfl) ?_|refine Zhg (Zce rfl) ?_
    refine Zhq (n := 4) rfl qH qZ (c1) ?_
    first|refine Zhg (Zaw rfl) ?_|refine Zhg (Zar rfl) ?_
    refine Zh8 rfl (by kernel_rfl) (hq4) rfl qT ?_
    rintro _ _ ⟨wa, wc, rfl, rfl⟩
    refine Zg2 qA ?_
    first|refine Zhg (Zmm rfl) ?_|refine Zhg (Zar rfl) ?_
    refine Zhg (Zco rfl rfl) ?_
    refine Zhg (Zco rfl rfl) ?_
    first|refine Zhg (Za2 rfl) ?_|refine Zhg (Zas rfl) ?_
    first|refine Zhg (Zaz rfl) ?_|refine Zhg (Zas rfl) ?_
    refine Zg3 ?_
    refine Ct.o ?_
    have ebC := eqBytes_x (L := [own 5 1 (.slice wa S2.length wc) S2.length (S2.map u8b), own 5 1 (.slice qa S2.length qc) S2.length (S2.map u8b)]) (a := S2) (b := S2) (Bs.own .here) (Bs.own (.there .here))
    refine Ct.o ?_
    refine Zgb ?_
    first|refine Zhg (Zat rfl) ?_|refine Zhg (Zar rfl) ?_
    first|refine Zhg (Zat rfl) ?_|refine Zhg (Zar rfl) ?_
    first|refine Zhg (Zmj rfl rfl) ?_|refine Zhg (Zbr rfl rfl) ?_
    refine Zhm 148 rfl (decide_eq_true (rfl)) ?_
    first|refine Zhg (Zau rfl) ?_|refine Zhg (Zar rfl) ?_
    first|refine Zhi rfl ?_|refine Zhj rfl ?_|(refine Zhh rfl ?_; (first|refine Zhg (Zaw rfl) ?_|refine Zhg (Zar rfl) ?_))
    first|refine Zhi rfl ?_|refine Zhj rfl ?_|(refine Zhh rfl ?_; (first|refine Zhg (Zaw rfl) ?_|refine Zhg (Zar rfl) ?_))
    first|refine Zhi rfl ?_|refine Zhj rfl ?_|(refine Zhh rfl ?_; (refine Zh8 rfl (by kernel_rfl) (ebC) rfl qT ?_); (rintro _ _ ⟨rfl, rfl⟩); (refine Zg2 qA ?_))
    refine Zhm 152 rfl (decide_eq_true (rfl)) ?_
    first|refine Zhg (Zdz rfl rfl) ?_|refine Zhg (Zd0 rfl rfl) ?_|refine Zhg (Za8 rfl rfl) ?_|refine Zhg (Za9 rfl rfl) ?_|refine Zhg (Za6 rfl rfl) ?_|refine Zhg (Za7 rfl rfl) ?_
    first|refine Zhg (Zau rfl) ?_|refine Zhg (Zar rfl) ?_
    first|refine Zhi rfl ?_|refine Zhj rfl ?_|(refine Zhh rfl ?_; (first|refine Zhg (Zaw rfl) ?_|refine Zhg (Zar rfl) ?_))
    first|refine Zhi rfl ?_|refine Zhj rfl ?_|(refine Zhh rfl ?_; (first|refine Zhg (Zaw rfl) ?_|refine Zhg (Zar rfl) ?_))
    first|refine Zhi rfl ?_|refine Zhj rfl ?_|(refine Zhh rfl ?_; (first|refine Zhg (Zaw rfl) ?_|refine Zhg (Zar rfl) ?_))
    first|refine Zhi rfl ?_|refine Zhj rfl ?_|(refine Zhh rfl ?_; (first|refine Zhg (Zaw rfl) ?_|refine Zhg (Zar rfl) ?_))
    rw [eT]; refine Zgw (Imp.arr (N := own 5 1 (.slice sa S.length sc) S.length (S.map u8b) :: own 5 1 (.slice ua S.length uc) S.length (S.map u8b) :: own 5 1 (.slice wa S2.length wc) S2.length (S2.map u8b) :: ownP (some ⟨gt, 0, none⟩, n + 80, T) :: L) qV) ?_; refine Zgw (Imp.cons (Imp.cons (Imp.cons (Imp.cons (star_nil (A := ownP)))))) ?_; refine Zgw (Imp.cons (Imp.cons (Imp.cons (star_cons (A := ownP) (x := (some ⟨gt, 0, none⟩, n + 80, T)))))) ?_; refine Zgw (Imp.cons (Imp.cons (star_cons (A := ownP) (x := (wa, wc, S2))))) ?_; refine Zgw (Imp.cons (star_cons (A := ownP) (x := (ua, uc, S)))) ?_; refine Zgw (star_cons (A := ownP) (x := (sa, sc, S))) ?_; refine Zhh rfl ?_; refine Zh7 (cs := #[.slice _ _ _, .slice _ _ _, .slice _ _ _, .slice _ _ _]) (by omega) (by omega) rfl ?_; intro b120
    first|refine Zhi rfl ?_|refine Zhj rfl ?_|(refine Zhh rfl ?_; (refine Zh8 rfl (by kernel_rfl) (apart_x (N := 4) (L := [cl b120 #[.slice sa S.length sc, .slice ua S.length uc, .slice wa S2.length wc, .slice (some ⟨gt, 0, none⟩) n (n + 80)] 28]) [(sa, sc, S), (ua, uc, S), (wa, wc, S2), (some ⟨gt, 0, none⟩, n + 80, T)] rfl (by omega) (by intro p hp; simp only [List.mem_cons, List.not_mem_nil, or_false] at hp; rcases hp with rfl|rfl|rfl|rfl <;> (dsimp only; omega)) (Rd.cl (o := 0) .here rfl (by simp) (by simp [vP, hT]))) rfl qT ?_); (rintro _ _ ⟨rfl, rfl⟩); (refine Zg2 qA ?_))
    first|refine Zhg (Zdz rfl rfl) ?_|refine Zhg (Zd0 rfl rfl) ?_|refine Zhg (Za8 rfl rfl) ?_|refine Zhg (Za9 rfl rfl) ?_|refine Zhg (Za6 rfl rfl) ?_|refine Zhg (Za7 rfl rfl) ?_
    first|refine Zhg (Zau rfl) ?_|refine Zhg (Zar rfl) ?_
    first|refine Zhi rfl ?_|refine Zhj rfl ?_|(refine Zhh rfl ?_; (refine Zh8 rfl (by kernel_rfl) (pgWorks_x) rfl qT ?_); (rintro _ _ ⟨rfl, rfl⟩); (refine Zg2 qA ?_))
    first|refine Zhg (Zdz rfl rfl) ?_|refine Zhg (Zd0 rfl rfl) ?_|refine Zhg (Za8 rfl rfl) ?_|refine Zhg (Za9 rfl rfl) ?_|refine Zhg (Za6 rfl rfl) ?_|refine Zhg (Za7 rfl rfl) ?_
    first|refine Zhg (Za0 rfl) ?_|refine Zhg (Zas rfl) ?_
    refine Zg3 ?_
    refine Ct.o ?_
    refine rx1 (Zha rfl (Zg7)) ?_
    exact ⟨_, ⟨rfl, rfl⟩, qI⟩
theorem pgSeals_w (W : World) (x : SheetV) (ok : SheetVOk W x) : Con Tryz.prog 3 [.agg x.cells.toArray] [old W] (fun r M => r = .bool true ∧ [old W] = M) := by
  rw [sheet_shc]; exact pgSeals_g x.key_ ok.key_ x.place_.plc (ok.b_.bs .here) ok.b_.len
theorem pgOpens_w (W : World) (x : SheetV) (ok : SheetVOk W x) : Con Tryz.prog 4 [.agg x.cells.toArray] [old W] (fun r M => r = .bool true ∧ [old W] = M) := by
  rw [sheet_shc]; exact pgOpens_g x.key_ ok.key_ x.place_.plc (ok.b_.bs .here) ok.b_.len
end Go.Sl
