/- Parts of the proof, joined: SealB, SealC, PgD, PgrD, PgrE, PgrF, PgrG, PgrH, PgrI, PgrJ, PgrK, EngAf, PgrL, PgrX, RefQ, TpB, OpenPg, PlA, PlB, PlW, PlC, TpC, TpD, PlD, PlJ, TpE. -/
import Derived.Test.YthodgeekgpkieaaGreatLawTopPagesM0
import Derived.Test.YthodgeekgpkieaaGreatLawTopPagesM1
import Derived.Test.YthodgeekgpkieaaGreatLawTopPagesM2
/- seal: Seal, look, Open, Peek, Nonce, walked. -/
set_option maxHeartbeats 4000000
set_option maxRecDepth 10000
set_option linter.unusedVariables false
set_option linter.unusedSimpArgs false
namespace Go.Sl
open Go Go.Proofs
attribute [local irreducible] pt old pur ex all den denOps denS xOps xC cX CX xthen xblk xcut xloop xng retX resX Calls PV Rd Con
attribute [local irreducible] code blockB ksB xorB vouchB leB
/-- What Seal answers. -/
def sealR (key nonce more text : List Byte) : List Byte × Nat := if 1048576 < more.length ∨ 1048576 < text.length then ([], 3) else (sealB key nonce more text, 0)
theorem seal_x {L : List Asrt} (key nonce : List Byte) (hk : key.length = 32) (hn : nonce.length = 12) {vm vt : Value} {more text : List Byte} (hm : Bs L vm more) (ht : Bs L vt text) (hml : more.length ≤ 140737488351232) (htl : text.length ≤ 140737488351232) :
    Con Tryz.prog 110 [.agg (key.map u8b).toArray, .agg (nonce.map u8b).toArray, vm, vt] L (fun r M => ∃ a c, r = .tuple #[.slice a (sealR key nonce more text).1.length c, nvv (sealR key nonce more text).2] ∧ M = own 5 1 (.slice a (sealR key nonce more text).1.length c) (sealR key nonce more text).1.length ((sealR key nonce more text).1.map u8b) :: L) := by
  refine Con.get (fun w0 w F H => hm.sh _ _ _ H) ?_
  rintro ⟨ma, mc, rfl, hmc, hmcm⟩
  refine Con.get (fun w0 w F H => ht.sh _ _ _ H) ?_
  rintro ⟨ta, tc, rfl, htc, htcm⟩
  by_cases hlong : 1048576 < more.length ∨ 1048576 < text.length
  · have e : sealR key nonce more text = ([], 3) := if_pos hlong
    rw [e]
    refine fn_x Tryz.func110 rfl rfl rfl Tryz.mixed (by kernel_rfl) ?_
    intro w0
    refine Y1 ?_
    refine Zh5 rfl ?_; intro b4
    refine Zh5 rfl ?_; intro b5
    refine V3 ?_
    by_cases h1 : 1048576 < more.length
    · refine Y4 ?_
      refine Zhm 16 rfl (decide_eq_true (h1)) ?_
      refine V11 ?_
      refine rx2 (Zhc rfl (Zg9 rfl (Zg7))) ?_
      exact ⟨_, ⟨none, 0, rfl, rfl⟩, (Imp.arr (N := L) qV).trans Imp.own_nil⟩
    · refine Y4 ?_
      refine Zhn 16 rfl (decide_eq_false (h1)) ?_
      refine Y4 ?_
      refine Zhm 20 rfl (decide_eq_true ((hlong.resolve_left h1))) ?_
      refine V7 ?_
      refine rx2 (Zhc rfl (Zg9 rfl (Zg7))) ?_
      exact ⟨_, ⟨none, 0, rfl, rfl⟩, (Imp.arr (N := L) qV).trans Imp.own_nil⟩
  · have e : sealR key nonce more text = (sealB key nonce more text, 0) := if_neg hlong
    rw [e]
    have h1 : ¬ 1048576 < more.length := fun h => hlong (.inl h)
    have h2 : ¬ 1048576 < text.length := fun h => hlong (.inr h)
    have hxl := xorB_len key nonce 64 text
    have hvl := vouchB_len key nonce more (xorB key nonce 64 text)
    refine fn_x Tryz.func110 rfl rfl rfl Tryz.mixed (by kernel_rfl) ?_
    intro w0
    refine Y1 ?_
    refine Zh5 rfl ?_; intro b4
    refine Zh5 rfl ?_; intro b5
    refine Y7 ?_
    refine Zhn 16 rfl (decide_eq_false (h1)) ?_
    refine Y4 ?_
    refine Zhn 20 rfl (decide_eq_false (h2)) ?_
    refine Y7 ?_
    refine Zh8 rfl (by kernel_rfl) (xor_x (L := L) key nonce hk hn ht (by omega)) rfl qT ?_
    rintro _ _ ⟨g, rfl, rfl⟩
    refine Y10 ?_
    refine Zhn 30 rfl (decide_eq_false ((fun h => h rfl))) ?_
    refine V2 ?_
    have hcv : Bs (cl g ((xorB key nonce 64 text).map u8b).toArray 5 :: L) (.slice (some ⟨g, 0, none⟩) text.length text.length) (xorB key nonce 64 text) := by
      have := Bs.cl (M := cl g ((xorB key nonce 64 text).map u8b).toArray 5 :: L) (o := 0) (c := text.length) (l := xorB key nonce 64 text) .here (by simp) (by simp; exact List.take_of_length_le (by simp)) (by omega) (by omega)
      rwa [hxl] at this
    refine Y5 ?_
    refine Zh8 rfl (by kernel_rfl) (vouch_x (L := cl g ((xorB key nonce 64 text).map u8b).toArray 5 :: L) key nonce hk hn (hm.imp Imp.tail) hcv (by omega) (by omega)) rfl qT ?_
    rintro _ _ ⟨rfl, rfl⟩
    refine Y1 ?_
    refine Zhz (cs := ((List.replicate 16 0#8).map u8b).toArray) rfl ?_; intro b12
    first|refine Zhy rfl rfl qR qZ qN qZ ?_|refine Zhx rfl rfl qR qZ qN qZ rfl ?_
    refine Y5 ?_
    refine Zm3 (f := u8b) (a := 0#8) (len := 0) rfl rfl rfl qS qS qS ?_; intro b40
    refine V2 ?_
    refine Zgp (Imp.own_mk (n := 0) (cap := text.length + 16) (size := 1) (xs := []) (by omega) (by omega) (by simp) (by simp)) ?_
    have hcr : Rd (cl g ((xorB key nonce 64 text).map u8b).toArray 5 :: L) 1 (.slice (some ⟨g, 0, none⟩) text.length text.length) text.length ((xorB key nonce 64 text).map u8b) := by
      have := hcv.rd; rwa [hxl] at this
    have htr : Rd [cl b12 ((vouchB key nonce more (xorB key nonce 64 text)).map u8b).toArray 178] 1 (.slice (some ⟨b12, 0, none⟩) 16 16) 16 ((vouchB key nonce more (xorB key nonce 64 text)).map u8b) :=
      Rd.cl (o := 0) .here (by simp [hvl]) (by simp [hvl]) (by simp; exact List.take_of_length_le (by simp [hvl]))
    refine Ct.o ?_
    refine Zij ([]) [] (.q 0 (.q 1 (.q 3 (.e 2 false (.e 4 false (.q 5 (.q 6 .nil))))))) (by kernel_rfl) (by kernel_rfl) (Imp.arr Arr.stop) ?_
    refine W2 ?_
    refine Zim rfl (Zmy (h := 16) rfl rfl) ?_
    refine Ziq rfl ?_
    refine Zia rfl rfl qH (hcr.imp (Imp.arr qV)) qN (by omega) qS ?_; intro a1 c1
    refine Zg3 ⟨(fun hh => Bool.noConfusion hh), ?_⟩
    refine Ziq rfl ?_
    refine Zia rfl rfl qH (htr.imp (Imp.arr qV)) qN (by omega) qS ?_; intro a2 c2
    refine Zg3 ⟨(fun hh => Bool.noConfusion hh), ?_⟩
    refine W3 ?_
    refine Ct.o ?_
    have e1 : [] ++ (xorB key nonce 64 text).map u8b ++ (vouchB key nonce more (xorB key nonce 64 text)).map u8b = (sealB key nonce more text).map u8b := by unfold sealB; simp
    have e2 : 0 + text.length + 16 = (sealB key nonce more text).length := by rw [sealB_len]; omega
    rw [e1, e2]
    refine rx2 (Zhc rfl (Zg9 rfl (Zg7))) ?_
    exact ⟨_, ⟨a2, c2, rfl, rfl⟩, qI⟩
end Go.Sl

/- seal: look, Open, Peek, Nonce, walked. -/
set_option maxHeartbeats 4000000
set_option maxRecDepth 10000
set_option linter.unusedVariables false
set_option linter.unusedSimpArgs false
namespace Go.Sl
open Go Go.Proofs
attribute [local irreducible] pt old pur ex all den denOps denS xOps xC cX CX xthen xblk xcut xloop xng retX resX Calls PV Rd Con
attribute [local irreducible] code blockB ksB xorB vouchB leB
/-- What look and Peek answer: the text, the mask, the error. -/
def lookR (key nonce more box : List Byte) : List Byte × BitVec 64 × Nat :=
  if box.length < 16 then ([], 0#64, 4) else if 1048576 < more.length ∨ 1048576 < box.length - 16 then ([], 0#64, 3)
  else if rightB key nonce more box = true then (textB key nonce box, 18446744073709551615#64, 0) else (List.replicate (box.length - 16) 0#8, 0#64, 0)
theorem look_x {L : List Asrt} (key nonce : List Byte) (hk : key.length = 32) (hn : nonce.length = 12) {vm vb : Value} {more box : List Byte} (hm : Bs L vm more) (hb : Bs L vb box) (hml : more.length ≤ 140737488351232) (hbl : box.length ≤ 140737488351232) :
    Con Tryz.prog 103 [.agg (key.map u8b).toArray, .agg (nonce.map u8b).toArray, vm, vb] L (fun r M => ∃ a c, r = .tuple #[.slice a (lookR key nonce more box).1.length c, u64b (lookR key nonce more box).2.1, nvv (lookR key nonce more box).2.2] ∧ M = own 5 1 (.slice a (lookR key nonce more box).1.length c) (lookR key nonce more box).1.length ((lookR key nonce more box).1.map u8b) :: L) := by
  refine Con.get (fun w0 w F H => hm.sh _ _ _ H) ?_
  rintro ⟨ma, mc, rfl, hmc, hmcm⟩
  refine Con.get (fun w0 w F H => hb.sh _ _ _ H) ?_
  rintro ⟨ba, bc, rfl, hbc, hbcm⟩
  by_cases h16 : box.length < 16
  · have e : lookR key nonce more box = ([], 0#64, 4) := if_pos h16
    rw [e]
    refine fn_x Tryz.func103 rfl rfl rfl Tryz.mixed (by kernel_rfl) ?_
    intro w0
    refine Y1 ?_
    refine Zh5 rfl ?_; intro b4
    refine Zh5 rfl ?_; intro b5
    refine V4 ?_
    refine Zno Tryz.mixed ?_
    refine Y3 ?_
    refine Zhg (Zbh (b := 16) rfl rfl (by omega)) ?_
    refine Y4 ?_
    refine Zhg (Zbn (b := 0) rfl rfl) ?_
    refine V1 ?_
    refine Zgg rfl (fun h => ?_) (fun h => absurd h (by omega))
    refine V5 ?_
    refine rx3 (Zhc rfl (Zg9 rfl (Zg9 rfl (Zg7)))) ?_
    exact ⟨_, ⟨none, 0, rfl, rfl⟩, (Imp.arr (N := L) qV).trans Imp.own_nil⟩
  by_cases hlong : 1048576 < more.length ∨ 1048576 < box.length - 16
  · have e : lookR key nonce more box = ([], 0#64, 3) := by unfold lookR; rw [if_neg h16, if_pos hlong]
    rw [e]
    refine fn_x Tryz.func103 rfl rfl rfl Tryz.mixed (by kernel_rfl) ?_
    intro w0
    refine Y1 ?_
    refine Zh5 rfl ?_; intro b4
    refine Zh5 rfl ?_; intro b5
    refine V4 ?_
    refine Zno Tryz.mixed ?_
    refine Y9 ?_
    refine Zhn 21 rfl (decide_eq_false (by omega)) ?_
    refine V2 ?_
    by_cases h1 : 1048576 < more.length
    · refine Y4 ?_
      refine Zhm 24 rfl (decide_eq_true (h1)) ?_
      refine V11 ?_
      refine rx3 (Zhc rfl (Zg9 rfl (Zg9 rfl (Zg7)))) ?_
      exact ⟨_, ⟨none, 0, rfl, rfl⟩, (Imp.arr (N := L) qV).trans Imp.own_nil⟩
    · refine Y4 ?_
      refine Zhn 24 rfl (decide_eq_false (h1)) ?_
      refine Y3 ?_
      refine Zhm 27 rfl (decide_eq_true ((hlong.resolve_left h1))) ?_
      refine V8 ?_
      refine rx3 (Zhc rfl (Zg9 rfl (Zg9 rfl (Zg7)))) ?_
      exact ⟨_, ⟨none, 0, rfl, rfl⟩, (Imp.arr (N := L) qV).trans Imp.own_nil⟩
  have h1 : ¬ 1048576 < more.length := fun h => hlong (.inl h)
  have h2 : ¬ 1048576 < box.length - 16 := fun h => hlong (.inr h)
  have hcl : (coverB box).length = box.length - 16 := by simp [coverB]
  have htl : (tagB box).length = 16 := by simp [tagB]; omega
  have hvl := vouchB_len key nonce more (coverB box)
  have hxl := textB_len key nonce box
  refine Con.get (fun w0 w F H => hb.some (by omega) H) ?_
  rintro ⟨b0, o0, rfl⟩
  have hcv : Bs L (.slice (some ⟨b0, o0, none⟩) (box.length - 16) bc) (coverB box) := hb.take (by omega)
  have htg : Bs L (.slice (some ⟨b0, o0 + (box.length - 16), none⟩) (box.length - (box.length - 16)) (bc - (box.length - 16))) (tagB box) := bs_drop hb (by omega) (by omega)
  refine fn_x Tryz.func103 rfl rfl rfl Tryz.mixed (by kernel_rfl) ?_
  intro w0
  refine Y1 ?_
  refine Zh5 rfl ?_; intro b4
  refine Zh5 rfl ?_; intro b5
  refine V4 ?_
  refine Zno Tryz.mixed ?_
  refine Y9 ?_
  refine Zhn 21 rfl (decide_eq_false (by omega)) ?_
  refine Y6 ?_
  refine Zhn 24 rfl (decide_eq_false (h1)) ?_
  refine Y3 ?_
  refine Zhn 27 rfl (decide_eq_false (h2)) ?_
  refine V3 ?_
  refine Zij (_) [1, 6, 7] (.q 2 (.q 3 (.q 4 (.q 5 (.r 0 (.r 1 (.e 6 true (.a 7 (.e 8 false .nil))))))))) (by kernel_rfl) (by kernel_rfl) (Imp.refl _) ?_
  refine W3 ?_
  refine Zim rfl (Zm0 (h := box.length - 16) rfl rfl (by omega)) ?_
  refine W2 ?_
  refine Ziq rfl ?_
  refine Zh8 rfl (by kernel_rfl) (vouch_x (L := L) key nonce hk hn hm hcv (by omega) (by omega)) rfl qT ?_
  rintro _ _ ⟨rfl, rfl⟩
  refine Y1 ?_
  refine Zg3 ⟨fun _ => Imp.arr qV, ?_⟩
  refine Zir rfl (cs := ((List.replicate 16 0#8).map u8b).toArray) rfl ?_; intro b12
  refine Ziq rfl ?_
  first|refine Zhy rfl rfl qR qZ qN qZ ?_|refine Zhx rfl rfl qR qZ qN qZ rfl ?_
  refine Zg3 ⟨(fun hh => Bool.noConfusion hh), ?_⟩
  refine Zik ?_
  refine Ct.o ?_
  have hva := bs_full (M := cl b12 ((vouchB key nonce more (coverB box)).map u8b).toArray 178 :: L) (n := 16) .here hvl (by omega)
  refine Ct.o ?_
  refine Zij ([]) [] (.q 0 (.q 1 (.q 2 (.q 3 (.e 4 false (.q 5 .nil)))))) (by kernel_rfl) (by kernel_rfl) (Imp.arr Arr.stop) ?_
  refine Zim rfl (Zmy (h := 16) rfl rfl) ?_
  refine W2 ?_
  first|refine Zim rfl (Zna (l := box.length - 16) (h := box.length) rfl qB qB) ?_|refine Zim rfl (Zmz (l := box.length - 16) (h := box.length) rfl qB qB) ?_
  refine Ziq rfl ?_
  refine Zh8 rfl (by kernel_rfl) (same_x (L := cl b12 ((vouchB key nonce more (coverB box)).map u8b).toArray 178 :: L) hva (htg.imp Imp.tail) (by omega)) rfl qT ?_
  rintro _ _ ⟨rfl, rfl⟩
  refine Y1 ?_
  refine Zg3 ⟨(fun hh => Bool.noConfusion hh), ?_⟩
  refine W2 ?_
  refine Ct.o ?_
  refine Zij (_) [1] (.q 2 (.q 3 (.q 4 (.r 0 (.r 1 (.e 5 false (.q 6 (.q 7 (.q 8 (.q 9 (.q 10 .nil))))))))))) (by kernel_rfl) (by kernel_rfl) (Imp.refl _) ?_
  refine W2 ?_
  refine Zim rfl (Zm0 (h := box.length - 16) rfl rfl (by omega)) ?_
  refine W2 ?_
  refine Ziq rfl ?_
  refine Zh8 rfl (by kernel_rfl) (xor_x (L := L) key nonce hk hn hcv (by omega)) rfl qT ?_
  rintro _ _ ⟨g, rfl, rfl⟩
  refine Y1 ?_
  refine Zg3 ⟨(fun hh => Bool.noConfusion hh), ?_⟩
  refine W6 ?_
  refine Ct.o ?_
  rw [show xorB key nonce 64 (coverB box) = textB key nonce box from rfl, hcl]
  refine Y3 ?_
  refine Zhn 51 rfl (decide_eq_false ((fun h => h rfl))) ?_
  refine V2 ?_
  by_cases hr : vouchB key nonce more (coverB box) = tagB box
  · have e : lookR key nonce more box = (textB key nonce box, 18446744073709551615#64, 0) := by unfold lookR; rw [if_neg h16, if_neg hlong, if_pos (show rightB key nonce more box = true from decide_eq_true hr)]
    rw [e, if_pos hr]
    refine Y2 ?_
    refine Zhg (Zlo (y := 0#64) rfl rfl) ?_
    refine Zhm 53 rfl (decide_eq_true ((by decide))) ?_
    refine V9 ?_
    refine rx3 (Zhc rfl (Zg9 rfl (Zg9 rfl (Zg7)))) ?_
    refine ⟨_, ⟨some ⟨g, 0, none⟩, box.length - 16, by dsimp only; rw [hxl]; rfl, rfl⟩, ?_⟩
    dsimp only
    rw [hxl]
    exact (Imp.arr (N := cl g ((textB key nonce box).map u8b).toArray 5 :: L) qV).trans (Imp.own_mk (by omega) (by omega) (by simp [hxl]) (by simp; exact List.take_of_length_le (by simp [hxl])))
  · have e : lookR key nonce more box = (List.replicate (box.length - 16) 0#8, 0#64, 0) := by unfold lookR; rw [if_neg h16, if_neg hlong, if_neg (show ¬ rightB key nonce more box = true from fun h => hr (of_decide_eq_true h))]
    rw [e, if_neg hr]
    refine Y2 ?_
    refine Zhg (Zlo (y := 0#64) rfl rfl) ?_
    refine Zhn 53 rfl (decide_eq_false ((fun h => h rfl))) ?_
    refine V7 ?_
    refine Zgo [(16, 16), (58, 64)] (by kernel_rfl) (fun i : Nat => i ≤ box.length - 16) (fun i => cl g ((List.replicate i 0#8 ++ (textB key nonce box).drop i).map u8b).toArray 5 :: L) (fun i => [(58, nvv i)]) (fun i => box.length - 16 - i) 0 (by omega) (by show Imp _ (cl g (([] ++ textB key nonce box).map u8b).toArray _ :: L); rw [List.nil_append]; exact qI) ⟨rfl, trivial⟩ ?_
    intro i u hi
    have hzl : (List.replicate i 0#8 ++ (textB key nonce box).drop i).length = box.length - 16 := by simp [hxl]; omega
    refine V3 ?_
    refine Zgg rfl (fun hB => ?_) (fun hB => ?_)
    · refine Y8 ?_
      refine Zhs rfl (v := u8b 0#8) rfl rfl qR qZ (setL (f := u8b)) ?_
      refine V1 ?_
      have e2 : (List.replicate i 0#8 ++ (textB key nonce box).drop i).set i 0#8 = List.replicate (i + 1) 0#8 ++ (textB key nonce box).drop (i + 1) := by
        rw [List.set_append_right _ _ (by simp), List.length_replicate, Nat.sub_self, List.drop_eq_getElem_cons (by omega), List.set_cons_zero, List.replicate_succ', List.append_assoc]; rfl
      rw [e2]
      refine V4 ?_
      exact Zgl (i + 1) qO (by omega) qI ⟨rfl, trivial⟩
    · have hie : i = box.length - 16 := by omega
      subst hie
      rw [List.drop_of_length_le (by omega), List.append_nil]
      refine V7 ?_
      refine rx3 (Zhc rfl (Zg9 rfl (Zg9 rfl (Zg7)))) ?_
      refine ⟨_, ⟨some ⟨g, 0, none⟩, box.length - 16, by dsimp only; rw [List.length_replicate]; rfl, rfl⟩, ?_⟩
      dsimp only
      rw [List.length_replicate]
      exact (Imp.arr (N := cl g ((List.replicate (box.length - 16) 0#8).map u8b).toArray 5 :: L) qV).trans (Imp.own_mk (by omega) (by omega) (by simp) (by simp))
/-- What Open answers. -/
def openR (key nonce more box : List Byte) : List Byte × Nat :=
  if box.length < 16 then ([], 4) else if 1048576 < more.length ∨ 1048576 < box.length - 16 then ([], 3)
  else if rightB key nonce more box = true then (textB key nonce box, 0) else ([], 70)
theorem open_x {L : List Asrt} (key nonce : List Byte) (hk : key.length = 32) (hn : nonce.length = 12) {vm vb : Value} {more box : List Byte} (hm : Bs L vm more) (hb : Bs L vb box) (hml : more.length ≤ 140737488351232) (hbl : box.length ≤ 140737488351232) :
    Con Tryz.prog 81 [.agg (key.map u8b).toArray, .agg (nonce.map u8b).toArray, vm, vb] L (fun r M => ∃ a c, r = .tuple #[.slice a (openR key nonce more box).1.length c, nvv (openR key nonce more box).2] ∧ M = own 5 1 (.slice a (openR key nonce more box).1.length c) (openR key nonce more box).1.length ((openR key nonce more box).1.map u8b) :: L) := by
  refine Con.get (fun w0 w F H => hm.sh _ _ _ H) ?_
  rintro ⟨ma, mc, rfl, hmc, hmcm⟩
  refine Con.get (fun w0 w F H => hb.sh _ _ _ H) ?_
  rintro ⟨ba, bc, rfl, hbc, hbcm⟩
  refine fn_x Tryz.func81 rfl rfl rfl Tryz.mixed (by kernel_rfl) ?_
  intro w0
  refine Y1 ?_
  refine Zh5 rfl ?_; intro b4
  refine Zh5 rfl ?_; intro b5
  refine Y8 ?_
  refine Zh8 rfl (by kernel_rfl) (look_x (L := L) key nonce hk hn hm hb hml hbl) rfl qT ?_
  rintro _ _ ⟨xa, xc, rfl, rfl⟩
  refine V9 ?_
  have drop0 : ∀ N, Imp (own 5 1 (.slice xa (lookR key nonce more box).1.length xc) (lookR key nonce more box).1.length ((lookR key nonce more box).1.map u8b) :: N) (own 5 1 (.slice none 0 0) 0 [] :: N) := fun N => Imp.tail.trans Imp.own_nil
  unfold lookR openR
  by_cases h16 : box.length < 16
  · simp only [if_pos h16]
    refine Y3 ?_
    refine Zhm 23 rfl (decide_eq_true (by decide)) ?_
    refine V7 ?_
    refine rx2 (Zhc rfl (Zg9 rfl (Zg7))) ?_
    exact ⟨_, ⟨none, 0, rfl, rfl⟩, (Imp.arr (N := L) qV).trans Imp.own_nil⟩
  · simp only [if_neg h16]
    by_cases hlong : 1048576 < more.length ∨ 1048576 < box.length - 16
    · simp only [if_pos hlong]
      refine Y3 ?_
      refine Zhm 23 rfl (decide_eq_true (by decide)) ?_
      refine V7 ?_
      refine rx2 (Zhc rfl (Zg9 rfl (Zg7))) ?_
      exact ⟨_, ⟨none, 0, rfl, rfl⟩, (Imp.arr (N := L) qV).trans Imp.own_nil⟩
    · simp only [if_neg hlong]
      by_cases hr : rightB key nonce more box = true
      · simp only [if_pos hr]
        refine Y3 ?_
        refine Zhn 23 rfl (decide_eq_false (by decide)) ?_
        refine Y4 ?_
        refine Zhg (Zln (y := 0#64) rfl rfl) ?_
        refine Zhn 26 rfl (decide_eq_false (by decide)) ?_
        refine V7 ?_
        refine rx2 (Zhc rfl (Zg9 rfl (Zg7))) ?_
        exact ⟨_, ⟨xa, xc, rfl, rfl⟩, qI⟩
      · simp only [if_neg hr]
        refine Y3 ?_
        refine Zhn 23 rfl (decide_eq_false (by decide)) ?_
        refine Y4 ?_
        refine Zhg (Zln (y := 0#64) rfl rfl) ?_
        refine Zhm 26 rfl (decide_eq_true (by decide)) ?_
        refine V6 ?_
        refine rx2 (Zhc rfl (Zg9 rfl (Zg7))) ?_
        exact ⟨_, ⟨none, 0, rfl, rfl⟩, (Imp.arr (N := L) qV).trans Imp.own_nil⟩
end Go.Sl

/- page: Seal, Open, walked. -/
set_option maxHeartbeats 4000000
set_option maxRecDepth 10000
set_option linter.unusedVariables false
set_option linter.unusedSimpArgs false
namespace Go.Sl
open Go Go.Proofs
attribute [local irreducible] pt old pur ex all den denOps denS xOps xC cX CX xthen xblk xcut xloop xng retX resX Calls PV Rd Con
attribute [local irreducible] code blockB ksB xorB vouchB leB headB moreB sealB rightB textB
theorem pgSeal_x {L : List Asrt} (key : List Byte) (hk : key.length = 32) (p : Plc) {vt : Value} {text : List Byte} (ht : Bs L vt text) (htl : text.length ≤ 140737488351232) :
    Con Tryz.prog 88 [.agg (key.map u8b).toArray, .agg (plc p), vt] L (fun r M => ∃ a c, r = .tuple #[.slice a (pgSealR key p text).1.length c, nvv (pgSealR key p text).2] ∧ M = own 5 1 (.slice a (pgSealR key p text).1.length c) (pgSealR key p text).1.length ((pgSealR key p text).1.map u8b) :: L) := by
  refine Con.get (fun w0 w F H => ht.sh _ _ _ H) ?_
  rintro ⟨ta, tc, rfl, htc, htcm⟩
  by_cases hlong : 4096 < text.length
  · have e : pgSealR key p text = ([], 3) := if_pos hlong
    rw [e]
    refine fn_x Tryz.func88 rfl rfl rfl Tryz.mixed (by kernel_rfl) ?_
    intro w0
    refine Y1 ?_
    refine Zh5 rfl ?_; intro b3
    refine Zh5 rfl ?_; intro b4
    refine Y7 ?_
    refine Zhm 14 rfl (decide_eq_true (hlong)) ?_
    refine V6 ?_
    refine rx2 (Zhc rfl (Zg9 rfl (Zg7))) ?_
    exact ⟨_, ⟨none, 0, rfl, rfl⟩, (Imp.arr (N := L) qV).trans Imp.own_nil⟩
  · have e : pgSealR key p text = (pgSealB key p text, 0) := if_neg hlong
    rw [e]
    have hml := moreB_len p
    have hhl := headB_len p
    have hsl := sealB_len key (headB p) (moreB p) text
    have esr : sealR key (headB p) (moreB p) text = (sealB key (headB p) (moreB p) text, 0) := if_neg (by omega)
    have hs := fun ma mc => seal_x (L := own 5 1 (.slice ma (moreB p).length mc) (moreB p).length ((moreB p).map u8b) :: L) key (headB p) hk hhl (Bs.own .here) (ht.imp Imp.tail) (by omega) (by omega)
    rw [esr] at hs
    dsimp only at hs
    refine fn_x Tryz.func88 rfl rfl rfl Tryz.mixed (by kernel_rfl) ?_
    intro w0
    refine Y1 ?_
    refine Zh5 rfl ?_; intro b3
    refine Zh5 rfl ?_; intro b4
    refine Y7 ?_
    refine Zhn 14 rfl (decide_eq_false (hlong)) ?_
    refine Y4 ?_
    refine Zh8 rfl (by kernel_rfl) (pghead_x p) rfl qT ?_
    rintro _ _ ⟨rfl, rfl⟩
    refine Y1 ?_
    refine Zhz (cs := ((List.replicate 12 0#8).map u8b).toArray) rfl ?_; intro b8
    first|refine Zhy rfl rfl qR qZ qN qZ ?_|refine Zhx rfl rfl qR qZ qN qZ rfl ?_
    refine V1 ?_
    refine Zij ([cl b3 (key.map u8b).toArray 23, cl b8 ((headB p).map u8b).toArray 63, cl b4 (plc p) 108]) [1, 2, 3] (.q 4 (.r 0 (.r 1 (.r 2 (.e 3 true (.e 5 false (.q 6 (.q 7 (.q 8 (.q 9 (.q 10 .nil))))))))))) (by kernel_rfl) (by kernel_rfl) (Imp.arr qV) ?_
    refine W4 ?_
    refine Ziq rfl ?_
    refine Zh8 rfl (by kernel_rfl) (pgmore_x p) rfl qT ?_
    rintro _ _ ⟨ma, mc, rfl, rfl⟩
    refine Y1 ?_
    refine Zg3 ⟨fun _ => Imp.arr qV, ?_⟩
    refine Ziq rfl ?_
    refine Zh8 rfl (by kernel_rfl) (hs ma mc) rfl qT ?_
    rintro _ _ ⟨sa, sc, rfl, rfl⟩
    refine Y1 ?_
    refine Zg3 ⟨(fun hh => Bool.noConfusion hh), ?_⟩
    refine W6 ?_
    refine Y3 ?_
    refine Zhn 27 rfl (decide_eq_false ((fun h => h rfl))) ?_
    refine Y5 ?_
    first|refine Zhg (Zma (a := 12) rfl rfl) ?_|refine Zhg (Zbg rfl rfl) ?_
    refine Zm3 (f := u8b) (a := 0#8) (len := 0) rfl rfl rfl qS qS qS ?_; intro b32
    refine V2 ?_
    refine Zgp (Imp.own_mk (n := 0) (cap := 12 + (sealB key (headB p) (moreB p) text).length) (size := 1) (xs := []) (by omega) (by omega) (by simp) (by simp)) ?_
    have hhr : Rd [cl b8 ((headB p).map u8b).toArray 63] 1 (.slice (some ⟨b8, 0, none⟩) 12 12) 12 ((headB p).map u8b) :=
      Rd.cl (o := 0) .here (by simp [hhl]) (by simp [hhl]) (by simp; exact List.take_of_length_le (by simp [hhl]))
    have hsr : Rd [own 5 1 (.slice sa (sealB key (headB p) (moreB p) text).length sc) (sealB key (headB p) (moreB p) text).length ((sealB key (headB p) (moreB p) text).map u8b)] 1 (.slice sa (sealB key (headB p) (moreB p) text).length sc) (sealB key (headB p) (moreB p) text).length ((sealB key (headB p) (moreB p) text).map u8b) := Rd.own .here
    refine Y2 ?_
    refine Zhg (Zmy (h := 12) rfl rfl) ?_
    refine Zia rfl rfl qH (hhr.imp (Imp.arr qV)) qN (by omega) qS ?_; intro a1 c1
    refine Y1 ?_
    refine Zia rfl rfl qH (hsr.imp (Imp.arr qV)) qN (by omega) qS ?_; intro a2 c2
    refine V3 ?_
    have e1 : [] ++ (headB p).map u8b ++ (sealB key (headB p) (moreB p) text).map u8b = (pgSealB key p text).map u8b := by unfold pgSealB; simp
    have e2 : 0 + 12 + (sealB key (headB p) (moreB p) text).length = (pgSealB key p text).length := by rw [pgSealB_len]; omega
    rw [e1, e2]
    refine rx2 (Zhc rfl (Zg9 rfl (Zg7))) ?_
    exact ⟨_, ⟨a2, c2, rfl, rfl⟩, qI⟩
theorem pgOpen_x {L : List Asrt} (key : List Byte) (hk : key.length = 32) (p : Plc) {vb : Value} {box : List Byte} (hb : Bs L vb box) (hbl : box.length ≤ 140737488351232) :
    Con Tryz.prog 57 [.agg (key.map u8b).toArray, .agg (plc p), vb] L (fun r M => ∃ a c, r = .tuple #[.slice a (pgOpenR key p box).1.length c, nvv (pgOpenR key p box).2] ∧ M = own 5 1 (.slice a (pgOpenR key p box).1.length c) (pgOpenR key p box).1.length ((pgOpenR key p box).1.map u8b) :: L) := by
  refine Con.get (fun w0 w F H => hb.sh _ _ _ H) ?_
  rintro ⟨ba, bc, rfl, hbc, hbcm⟩
  have eno : ¬ pgFits p box → pgOpenR key p box = ([], 120) := fun h => if_neg (fun h2 => h h2.1)
  by_cases hlong : 4124 < box.length
  · rw [eno (fun h => by have := h.2.1; omega)]
    refine fn_x Tryz.func57 rfl rfl rfl Tryz.mixed (by kernel_rfl) ?_
    intro w0
    refine Y1 ?_
    refine Zh5 rfl ?_; intro b3
    refine Zh5 rfl ?_; intro b4
    refine Y7 ?_
    refine Zhm 14 rfl (decide_eq_true (hlong)) ?_
    refine V6 ?_
    refine rx2 (Zhc rfl (Zg9 rfl (Zg7))) ?_
    exact ⟨_, ⟨none, 0, rfl, rfl⟩, (Imp.arr (N := L) qV).trans Imp.own_nil⟩
  by_cases h28 : box.length < 28
  · rw [eno (fun h => by have := h.1; omega)]
    have hh := pgHead_x hb hbl
    rw [show pgHeadR box = (0#64, 0#32, 20) from if_pos h28] at hh
    dsimp only at hh
    refine fn_x Tryz.func57 rfl rfl rfl Tryz.mixed (by kernel_rfl) ?_
    intro w0
    refine Y1 ?_
    refine Zh5 rfl ?_; intro b3
    refine Zh5 rfl ?_; intro b4
    refine Y7 ?_
    refine Zhn 14 rfl (decide_eq_false (hlong)) ?_
    refine Y4 ?_
    refine Zh8 rfl (by kernel_rfl) (hh) rfl qT ?_
    rintro _ _ ⟨rfl, rfl⟩
    refine Y12 ?_
    refine Zhm 22 rfl (decide_eq_true ((by decide))) ?_
    refine Y8 ?_
    first|refine Y0 ?_|(refine Zhh rfl ?_; (refine Zhg (Zdm (cs := #[.int .u64 _, .int .u32 _, .int .u32 _, .int .u32 _]) rfl) ?_))
    first|refine Y0 ?_|(refine Zhh rfl ?_; (refine Zhg (pv_neq_UNKNOWN_struct) ?_))
    refine V7 ?_
    refine rx2 (Zhc rfl (Zg9 rfl (Zg7))) ?_
    exact ⟨_, ⟨none, 0, rfl, rfl⟩, (Imp.arr (N := L) qV).trans Imp.own_nil⟩
  have hh := pgHead_x hb hbl
  rw [show pgHeadR box = (lowB 64 (box.take 8), lowB 32 ((box.drop 8).take 4), 0) from if_neg h28] at hh
  dsimp only at hh
  have hhi := head_is p box (by omega)
  generalize lowB 64 (box.take 8) = hr at hh hhi
  generalize lowB 32 ((box.drop 8).take 4) = hc at hh hhi
  by_cases hpl : p = ⟨hr, hc, p.page, p.version⟩
  · have hfit : pgFits p box := ⟨by omega, by omega, hhi.2 (by rw [hpl]; exact ⟨rfl, rfl⟩)⟩
    refine Con.get (fun w0 w F H => hb.some (by omega) H) ?_
    rintro ⟨b0, o0, rfl⟩
    have hml := moreB_len p
    have hdl : (box.drop 12).length = box.length - 12 := List.length_drop
    have hdb : Bs L (.slice (some ⟨b0, o0 + 12, none⟩) (box.length - 12) (bc - 12)) (box.drop 12) := bs_drop hb (by omega) (by omega)
    have ho := fun ma mc => open_x (L := own 5 1 (.slice ma (moreB p).length mc) (moreB p).length ((moreB p).map u8b) :: L) key (headB p) hk (headB_len p) (Bs.own .here) (hdb.imp Imp.tail) (by omega) (by omega)
    by_cases hr2 : rightB key (headB p) (moreB p) (box.drop 12) = true
    · have e : pgOpenR key p box = (textB key (headB p) (box.drop 12), 0) := if_pos ⟨hfit, hr2⟩
      have eo : openR key (headB p) (moreB p) (box.drop 12) = (textB key (headB p) (box.drop 12), 0) := by unfold openR; rw [if_neg (by omega), if_neg (by omega), if_pos hr2]
      rw [e]
      rw [eo] at ho
      dsimp only at ho
      refine fn_x Tryz.func57 rfl rfl rfl Tryz.mixed (by kernel_rfl) ?_
      intro w0
      refine Y1 ?_
      refine Zh5 rfl ?_; intro b3
      refine Zh5 rfl ?_; intro b4
      refine Y7 ?_
      refine Zhn 14 rfl (decide_eq_false (hlong)) ?_
      refine Y4 ?_
      refine Zh8 rfl (by kernel_rfl) (hh) rfl qT ?_
      rintro _ _ ⟨rfl, rfl⟩
      refine Y12 ?_
      refine Zhn 22 rfl (decide_eq_false ((fun h => h rfl))) ?_
      refine Y8 ?_
      first|refine Y0 ?_|(refine Zhh rfl ?_; (refine Zhg (Zdm (cs := #[.int .u64 _, .int .u32 _, .int .u32 _, .int .u32 _]) rfl) ?_))
      first|refine Y0 ?_|(refine Zhh rfl ?_; (refine Zhg (pv_neq_plc p ⟨hr, hc, p.page, p.version⟩ rfl rfl) ?_))
      refine Zhn 32 rfl (decide_eq_false ((fun h => h hpl))) ?_
      refine V3 ?_
      refine Zij ([cl b3 (key.map u8b).toArray 23, cl b4 (plc p) 108]) [1, 2, 3, 4] (.q 5 (.q 6 (.r 0 (.r 1 (.r 3 (.e 2 true (.e 4 true (.e 7 false (.q 8 (.q 9 (.q 10 (.q 11 (.q 12 .nil))))))))))))) (by kernel_rfl) (by kernel_rfl) (Imp.arr qV) ?_
      refine W1 ?_
      first|refine Zim rfl (Zna (l := 12) (h := box.length) rfl qB qB) ?_|refine Zim rfl (Zmz (l := 12) (h := box.length) rfl qB qB) ?_
      refine W3 ?_
      refine Ziq rfl ?_
      refine Zh8 rfl (by kernel_rfl) (pghead_x p) rfl qT ?_
      rintro _ _ ⟨rfl, rfl⟩
      refine Y1 ?_
      refine Zg3 ⟨fun _ => Imp.arr qV, ?_⟩
      refine Ziq rfl ?_
      refine Zh8 rfl (by kernel_rfl) (pgmore_x p) rfl qT ?_
      rintro _ _ ⟨ma, mc, rfl, rfl⟩
      refine Y1 ?_
      refine Zg3 ⟨fun _ => Imp.arr qV, ?_⟩
      refine Ziq rfl ?_
      refine Zh8 rfl (by kernel_rfl) (ho ma mc) rfl qT ?_
      rintro _ _ ⟨xa, xc, rfl, rfl⟩
      refine Y1 ?_
      refine Zg3 ⟨(fun hh => Bool.noConfusion hh), ?_⟩
      refine W6 ?_
      refine Y3 ?_
      refine Zh8 rfl (by kernel_rfl) (fails_x 0) rfl qT ?_
      rintro _ _ ⟨rfl, rfl⟩
      refine V8 ?_
      refine rx2 (Zhc rfl (Zg9 rfl (Zg7))) ?_
      exact ⟨_, ⟨xa, xc, rfl, rfl⟩, qI⟩
    · have e : pgOpenR key p box = ([], 120) := if_neg (fun h => hr2 h.2)
      have eo : openR key (headB p) (moreB p) (box.drop 12) = ([], 70) := by unfold openR; rw [if_neg (by omega), if_neg (by omega), if_neg hr2]
      rw [e]
      rw [eo] at ho
      dsimp only at ho
      refine fn_x Tryz.func57 rfl rfl rfl Tryz.mixed (by kernel_rfl) ?_
      intro w0
      refine Y1 ?_
      refine Zh5 rfl ?_; intro b3
      refine Zh5 rfl ?_; intro b4
      refine Y7 ?_
      refine Zhn 14 rfl (decide_eq_false (hlong)) ?_
      refine Y4 ?_
      refine Zh8 rfl (by kernel_rfl) (hh) rfl qT ?_
      rintro _ _ ⟨rfl, rfl⟩
      refine Y12 ?_
      refine Zhn 22 rfl (decide_eq_false ((fun h => h rfl))) ?_
      refine Y8 ?_
      first|refine Y0 ?_|(refine Zhh rfl ?_; (refine Zhg (Zdm (cs := #[.int .u64 _, .int .u32 _, .int .u32 _, .int .u32 _]) rfl) ?_))
      first|refine Y0 ?_|(refine Zhh rfl ?_; (refine Zhg (pv_neq_plc p ⟨hr, hc, p.page, p.version⟩ rfl rfl) ?_))
      refine Zhn 32 rfl (decide_eq_false ((fun h => h hpl))) ?_
      refine V3 ?_
      refine Zij ([cl b3 (key.map u8b).toArray 23, cl b4 (plc p) 108]) [1, 2, 3, 4] (.q 5 (.q 6 (.r 0 (.r 1 (.r 3 (.e 2 true (.e 4 true (.e 7 false (.q 8 (.q 9 (.q 10 (.q 11 (.q 12 .nil))))))))))))) (by kernel_rfl) (by kernel_rfl) (Imp.arr qV) ?_
      refine W1 ?_
      first|refine Zim rfl (Zna (l := 12) (h := box.length) rfl qB qB) ?_|refine Zim rfl (Zmz (l := 12) (h := box.length) rfl qB qB) ?_
      refine W3 ?_
      refine Ziq rfl ?_
      refine Zh8 rfl (by kernel_rfl) (pghead_x p) rfl qT ?_
      rintro _ _ ⟨rfl, rfl⟩
      refine Y1 ?_
      refine Zg3 ⟨fun _ => Imp.arr qV, ?_⟩
      refine Ziq rfl ?_
      refine Zh8 rfl (by kernel_rfl) (pgmore_x p) rfl qT ?_
      rintro _ _ ⟨ma, mc, rfl, rfl⟩
      refine Y1 ?_
      refine Zg3 ⟨fun _ => Imp.arr qV, ?_⟩
      refine Ziq rfl ?_
      refine Zh8 rfl (by kernel_rfl) (ho ma mc) rfl qT ?_
      rintro _ _ ⟨xa, xc, rfl, rfl⟩
      refine Y1 ?_
      refine Zg3 ⟨(fun hh => Bool.noConfusion hh), ?_⟩
      refine W6 ?_
      refine Y3 ?_
      refine Zh8 rfl (by kernel_rfl) (fails_x 70) rfl qT ?_
      rintro _ _ ⟨rfl, rfl⟩
      refine V7 ?_
      refine rx2 (Zhc rfl (Zg9 rfl (Zg7))) ?_
      exact ⟨_, ⟨none, 0, rfl, rfl⟩, (Imp.arr (N := L) qV).trans Imp.own_nil⟩
  · rw [eno (fun h => hpl (by
      obtain ⟨h1, h2⟩ := hhi.1 h.2.2
      rw [h1, h2]))]
    refine fn_x Tryz.func57 rfl rfl rfl Tryz.mixed (by kernel_rfl) ?_
    intro w0
    refine Y1 ?_
    refine Zh5 rfl ?_; intro b3
    refine Zh5 rfl ?_; intro b4
    refine Y7 ?_
    refine Zhn 14 rfl (decide_eq_false (hlong)) ?_
    refine Y4 ?_
    refine Zh8 rfl (by kernel_rfl) (hh) rfl qT ?_
    rintro _ _ ⟨rfl, rfl⟩
    refine Y12 ?_
    refine Zhn 22 rfl (decide_eq_false ((fun h => h rfl))) ?_
    refine Y8 ?_
    first|refine Y0 ?_|(refine Zhh rfl ?_; (refine Zhg (Zdm (cs := #[.int .u64 _, .int .u32 _, .int .u32 _, .int .u32 _]) rfl) ?_))
    first|refine Y0 ?_|(refine Zhh rfl ?_; (refine Zhg (pv_neq_plc p ⟨hr, hc, p.page, p.version⟩ rfl rfl) ?_))
    refine Zhm 32 rfl (decide_eq_true (hpl)) ?_
    refine V7 ?_
    refine rx2 (Zhc rfl (Zg9 rfl (Zg7))) ?_
    exact ⟨_, ⟨none, 0, rfl, rfl⟩, (Imp.arr (N := L) qV).trans Imp.own_nil⟩
end Go.Sl

/- pager: a pager as one piece; write, walked. -/
set_option maxHeartbeats 4000000
set_option maxRecDepth 10000
set_option linter.unusedVariables false
set_option linter.unusedSimpArgs false
namespace Go.Sl
open Go Go.Proofs
attribute [local irreducible] pt old pur ex all den denOps denS xOps xC cX CX xthen xblk xcut xloop xng retX resX Calls PV Rd Con
attribute [local irreducible] hostA pcl pgSealB pgOpenR HostS.writeR HostS.readR
open PagerS (PS Over)
abbrev pgL (p : Nat) (s : PS) (c : PC) (l : List FV) : List Asrt := [cl p (pcl s c) 102, fmA c.bh (heldF l), fmA c.bl (lastF s.last), ownI c.oa c.oc (fpages l), star frA l]
structure PgOk (ph : Nat) (s : PS) (c : PC) (l : List FV) : Prop where
  ok : PagerS.Ok s
  ph : c.ph = ph
  held : s.held = l.map (·.1)
  n : c.n = (fpages l).length
def pgB (p ph : Nat) (s : PS) (t : PC × List FV) : Asrt := all (pur (PgOk ph s t.1 t.2) :: pgL p s t.1 t.2)
/-- A pager over the host at ph. -/
def pgA (p ph : Nat) (s : PS) : Asrt := ex (pgB p ph s)
section
variable {p ph : Nat} {s : PS} {L : List Asrt}
theorem pgA_mk {c : PC} {l : List FV} (h : PgOk ph s c l) : Imp (pgL p s c l ++ L) (pgA p ph s :: L) :=
  ((Imp.pur_mk h).trans (Imp.app (L := pur (PgOk ph s c l) :: pgL p s c l))).trans (Imp.head fun f h => by unfold pgA Sl.ex; exact Exists.intro (p := fun x => (pgB p ph s x).on f) (c, l) h)
theorem Con.pgA {F : FuncId} {args : List Value} {Φ : Value → List Asrt → Prop} (h : ∀ (c : PC) (l : List FV), PgOk ph s c l → Con Tryz.prog F args (pgL p s c l ++ L) Φ) : Con Tryz.prog F args (Sl.pgA p ph s :: L) Φ :=
  Con.ex fun t => Con.pre (Con.pur fun hk => h t.1 t.2 hk) (Imp.unapp (L := Sl.pur (PgOk ph s t.1 t.2) :: pgL p s t.1 t.2))
theorem x_pgA {w0 : World} {c : Code} {ρ : Env} {Q : XQ} (h : ∀ (t : PC) (l : List FV), PgOk ph s t l → xC Tryz.prog w0 c ρ (pgL p s t l ++ L) Q) : xC Tryz.prog w0 c ρ (pgA p ph s :: L) Q := by
  unfold pgA
  exact Zgr fun t => Zgs (L := pur (PgOk ph s t.1 t.2) :: pgL p s t.1 t.2) (Zgq fun hk => h t.1 t.2 hk)
end
theorem met_write (ph : Nat) : Met Tryz.prog 28 (hp ph) "Write" 213 (hp ph) := by intro w; kernel_rfl
theorem met_read (ph : Nat) : Met Tryz.prog 28 (hp ph) "Read" 210 (hp ph) := by intro w; kernel_rfl
theorem find_at {l : List FV} (hn : (fpages l).Nodup) {i : Nat} (hi : i < l.length) : (l.find? fun e => e.1.page == l[i].1.page) = some l[i] := by
  induction l generalizing i with
  | nil => simp at hi
  | cons x r ih =>
    rw [fpages, List.map_cons, List.nodup_cons] at hn
    cases i with
    | zero => simp
    | succ i =>
      have hi : i < r.length := by simpa using hi
      simp only [List.getElem_cons_succ]
      rw [List.find?_cons_of_neg (by
        simp only [beq_iff_eq]
        intro e
        exact hn.1 (e ▸ List.mem_map.2 ⟨r[i], List.getElem_mem hi, rfl⟩))]
      exact ih hn.2 hi
theorem heldF_at {l : List FV} (hn : (fpages l).Nodup) {i : Nat} (hi : i < l.length) : heldF l l[i].1.page = some (hp l[i].2.1) := by unfold heldF; rw [find_at hn hi]; rfl
theorem heldF_no {l : List FV} {n : Int} (h : n ∉ fpages l) : heldF l n = none := by
  unfold heldF
  rw [Option.map_eq_none_iff, List.find?_eq_none]
  intro e he
  simp only [beq_iff_eq]
  exact fun hh => h (hh ▸ List.mem_map.2 ⟨e, he, rfl⟩)
section
variable {ph : Nat} {s : PS} {c : PC} {l : List FV}
theorem PgOk.nodup (h : PgOk ph s c l) : (fpages l).Nodup := by
  have := h.ok.once
  unfold PagerS.numbers at this
  rw [h.held, List.map_map] at this
  exact this
theorem PgOk.fr (h : PgOk ph s c l) {i : Nat} (hi : i < l.length) : PagerS.frOf s l[i].1.page = some l[i].1 := by
  unfold PagerS.frOf
  rw [h.held, List.find?_map]
  have := find_at h.nodup hi
  simp only [Function.comp_def]
  rw [this]; rfl
theorem PgOk.none (h : PgOk ph s c l) {n : Int} (hn : n ∉ fpages l) : PagerS.frOf s n = none := by
  unfold PagerS.frOf
  rw [h.held, List.find?_eq_none]
  intro f hf
  obtain ⟨e, he, rfl⟩ := List.mem_map.1 hf
  simp only [beq_iff_eq]
  exact fun hh => hn (hh ▸ List.mem_map.2 ⟨e, he, rfl⟩)
theorem PgOk.len (h : PgOk ph s c l) : l.length ≤ 16 := by
  have := h.ok.many; have := h.ok.w1
  rw [h.held, List.length_map] at *
  omega
/-- A held page is clean now. -/
def wash (l : List FV) (i : Nat) (hi : i < l.length) : List FV := l.set i ({ l[i].1 with is := 1 }, l[i].2)
theorem wash_len {i : Nat} (hi : i < l.length) : (wash l i hi).length = l.length := by unfold wash; simp
theorem wash_at {i j : Nat} (hi : i < l.length) (hj : j < l.length) : (wash l i hi)[j]'(by rw [wash_len]; exact hj) = if i = j then ({ l[i].1 with is := 1 }, l[i].2) else l[j] := by
  unfold wash; rw [List.getElem_set]
theorem wash_pages {i : Nat} (hi : i < l.length) : fpages (wash l i hi) = fpages l := by
  apply List.ext_getElem (by simp [fpages, wash_len])
  intro j h1 h2
  have hj : j < l.length := by simpa [fpages] using h2
  simp only [fpages, List.getElem_map]
  rw [wash_at hi hj]
  split
  · rename_i e; subst e; rfl
  · rfl
theorem page_inj (hn : (fpages l).Nodup) {i j : Nat} (hi : i < l.length) (hj : j < l.length) (e : l[i].1.page = l[j].1.page) : i = j := by
  have h := List.pairwise_iff_getElem.1 hn
  have hi' : i < (fpages l).length := by simpa [fpages] using hi
  have hj' : j < (fpages l).length := by simpa [fpages] using hj
  have e' : (fpages l)[i] = (fpages l)[j] := by simp only [fpages, List.getElem_map]; exact e
  rcases Nat.lt_trichotomy i j with hlt|hlt|hlt
  · exact absurd e' (h i j hi' hj' hlt)
  · exact hlt
  · exact absurd e'.symm (h j i hj' hi' hlt)
theorem wash_held (h : PgOk ph s c l) {i : Nat} (hi : i < l.length) : PagerS.cleaned s.held l[i].1.page = (wash l i hi).map (·.1) := by
  rw [h.held]
  unfold PagerS.cleaned
  rw [List.map_map]
  apply List.ext_getElem (by simp [wash_len])
  intro j h1 h2
  have hj : j < l.length := by simpa using h1
  simp only [List.getElem_map, Function.comp]
  rw [wash_at hi hj]
  by_cases e : i = j
  · subst e; rw [if_pos rfl, if_pos rfl]
  · rw [if_neg e, if_neg (fun hh => e (page_inj h.nodup hj hi hh).symm)]
theorem wash_F (hn : (fpages l).Nodup) {i : Nat} (hi : i < l.length) : heldF (wash l i hi) = heldF l := by
  funext n
  by_cases hin : n ∈ fpages l
  · obtain ⟨j, hj, rfl⟩ := List.mem_iff_getElem.1 hin
    have hj' : j < l.length := by simpa [fpages] using hj
    have hnw : (fpages (wash l i hi)).Nodup := by rw [wash_pages]; exact hn
    have e1 := heldF_at hnw (i := j) (by rw [wash_len]; exact hj')
    have e2 := heldF_at hn hj'
    rw [wash_at hi hj'] at e1
    simp only [fpages, List.getElem_map]
    rw [e2]
    split at e1
    · rename_i e; subst e; exact e1
    · exact e1
  · rw [heldF_no hin, heldF_no (by rw [wash_pages]; exact hin)]
end
end Go.Sl

/- pager: write, walked. -/
set_option maxHeartbeats 4000000
set_option maxRecDepth 10000
set_option linter.unusedVariables false
set_option linter.unusedSimpArgs false
namespace Go.Sl
open Go Go.Proofs
attribute [local irreducible] pt old pur ex all den denOps denS xOps xC cX CX xthen xblk xcut xloop xng retX resX Calls PV Rd Con
attribute [local irreducible] hostA pcl pgSealB pgOpenR HostS.writeR HostS.readR
open PagerS (PS Over)
section
variable {s : PS} {h : HostS.HS} {n : Int}
theorem writeP_worn (hw : s.writes = 4294967295) : PagerS.writeP s h n = (130, PagerS.die s 130, h) := by unfold PagerS.writeP; rw [if_pos hw]
theorem writeP_no (hw : s.writes ≠ 4294967295) (hn : (HostS.writeR h n (PagerS.boxOf s n)).1 ≠ 0) : PagerS.writeP s h n = ((HostS.writeR h n (PagerS.boxOf s n)).1, PagerS.die s (HostS.writeR h n (PagerS.boxOf s n)).1, (HostS.writeR h n (PagerS.boxOf s n)).2) := by unfold PagerS.writeP; rw [if_neg hw]; dsimp only; rw [if_neg hn]
theorem writeP_ok (hw : s.writes ≠ 4294967295) (hn : (HostS.writeR h n (PagerS.boxOf s n)).1 = 0) : PagerS.writeP s h n = (0, PagerS.wroteP s n, (HostS.writeR h n (PagerS.boxOf s n)).2) := by unfold PagerS.writeP; rw [if_neg hw]; dsimp only; rw [if_pos hn]
theorem writeR_err (h : HostS.HS) (n : Int) (b : HostS.Bytes) : (HostS.writeR h n b).1 ≤ 1000 := by
  unfold HostS.writeR
  split
  · split
    · unfold HostS.does
      split
      · (dsimp only; omega)
      · dsimp only
        split
        · (dsimp only; omega)
        · split <;> (dsimp only; omega)
    · (dsimp only; omega)
  · (dsimp only; omega)
end
def plc0 : Plc := ⟨0#64, 0#32, 0#32, 0#32⟩
theorem last_at (s : PS) (n : Int) : ∃ op : Plc, (lastF s.last n).getD (.agg (plc plc0)) = .agg (plc op) ∧ op.version = PagerS.verOf s n := by
  unfold lastF PagerS.verOf
  cases hl : s.last n with
  | none => exact ⟨plc0, rfl, rfl⟩
  | some q => exact ⟨q, rfl, rfl⟩
theorem last_set (f : Int → Option Plc) (n : Int) (q : Plc) : fput (lastF f) n (some (.agg (plc q))) = lastF (HostS.setF f n (some q)) := by
  funext k
  unfold fput lastF HostS.setF
  split <;> rfl
theorem ofNat32_inj {a b : Nat} (ha : a < 4294967296) (hb : b < 4294967296) : BitVec.ofNat 32 a = BitVec.ofNat 32 b ↔ a = b := by
  constructor
  · intro h
    have := congrArg BitVec.toNat h
    simp only [BitVec.toNat_ofNat] at this
    omega
  · rintro rfl; rfl
section
variable {p ph : Nat} {s : PS} {h : HostS.HS}
theorem pwrite_g {c : PC} {l : List FV} (hk : PgOk ph s c l) (hov : Over s h) (hops : h.ops < 3518437208880) {i : Nat} (hi : i < l.length) :
    Con Tryz.prog 63 [hp p, .int .i64 l[i].1.page] (pgL p s c l ++ [hostA ph h]) (fun r M => r = nvv (PagerS.writeP s h l[i].1.page).1 ∧ ∃ l', PgOk ph (PagerS.writeP s h l[i].1.page).2.1 c l' ∧ M = pgL p (PagerS.writeP s h l[i].1.page).2.1 c l' ++ [hostA ph (PagerS.writeP s h l[i].1.page).2.2]) := by
  obtain rfl := hk.ph
  have hkey := hk.ok.key
  have hsz := pg_size (c := c) hkey
  have hwl := hk.ok.writes
  simp only [List.cons_append, List.nil_append]
  by_cases hw : s.writes = 4294967295
  · rw [writeP_worn hw]
    refine fn_x Tryz.func63 rfl rfl rfl Tryz.mixed (by kernel_rfl) ?_
    intro w0
    refine Y7 ?_
    refine Zhp rfl qH (pg_f hkey (k := 8) rfl) ?_
    refine Zhg (Zky (x := BitVec.ofNat 32 s.writes) (y := 4294967295#32) rfl rfl) ?_
    refine Zhm 13 rfl (decide_eq_true ((by rw [hw]))) ?_
    refine Y4 ?_
    refine Zh8 rfl (by kernel_rfl) (die_x hkey 130) rfl qT ?_
    rintro _ _ ⟨rfl, rfl⟩
    refine V3 ?_
    refine rx1 (Zg9 rfl (Zg7)) ?_
    exact ⟨_, ⟨rfl, l, ⟨PagerS.ok_die hk.ok 130 (by omega), rfl, hk.held, hk.n⟩, rfl⟩, qI⟩
  · have hl16 := hk.len
    have hfr := hk.fr hi
    have htx : PagerS.textOf s l[i].1.page = l[i].1.text := by unfold PagerS.textOf; rw [hfr]; rfl
    have htl : l[i].1.text.length = s.text := hk.ok.len _ (by rw [hk.held]; exact List.mem_map.2 ⟨l[i], List.getElem_mem hi, rfl⟩)
    have ht1 := hk.ok.t1
    have ht0 := hk.ok.t0
    obtain ⟨op, ho1, ho2⟩ := last_at s l[i].1.page
    have hbox : PagerS.boxOf s l[i].1.page = pgSealB s.key (PagerS.nextPl s l[i].1.page) l[i].1.text := by unfold PagerS.boxOf; rw [htx]
    have hbl : (pgSealB s.key (PagerS.nextPl s l[i].1.page) l[i].1.text).length = s.text + 28 := by rw [pgSealB_len, htl]
    have hsl := pgSeal_x (L := [ownB l[i].2.2.1 l[i].2.2.2 l[i].1.text]) s.key hkey (PagerS.nextPl s l[i].1.page) (Bs.own .here) (by omega)
    rw [pgSealR_ok _ _ _ (by omega)] at hsl
    have enx : PagerS.nextPl s l[i].1.page = ⟨s.round, BitVec.ofNat 32 s.writes, BitVec.ofInt 32 l[i].1.page, op.version + 1#32⟩ := by unfold PagerS.nextPl; rw [ho2]
    have herr := writeR_err h l[i].1.page (PagerS.boxOf s l[i].1.page)
    have hwr := fun xa xc => write_x (p := c.ph) (s := h) (L := [own 5 1 (.slice xa (pgSealB s.key (PagerS.nextPl s l[i].1.page) l[i].1.text).length xc) (pgSealB s.key (PagerS.nextPl s l[i].1.page) l[i].1.text).length ((pgSealB s.key (PagerS.nextPl s l[i].1.page) l[i].1.text).map u8b)]) l[i].1.page (Bs.own .here) hops (by omega)
    rw [← hbox] at hwr hsl
    rw [← hbox] at hbl
    dsimp only at hsl
    refine fn_x Tryz.func63 rfl rfl rfl Tryz.mixed (by kernel_rfl) ?_
    intro w0
    refine Y7 ?_
    refine Zhp rfl qH (pg_f hkey (k := 8) rfl) ?_
    refine Zhg (Zky (x := BitVec.ofNat 32 s.writes) (y := 4294967295#32) rfl rfl) ?_
    refine Zhn 13 rfl (decide_eq_false ((fun hh => hw ((ofNat32_inj (by omega) (by omega)).1 hh)))) ?_
    refine Y6 ?_
    refine Zhp rfl qH (pg_f hkey (k := 4) rfl) ?_
    refine Y1 ?_
    refine Zoc rfl rfl qH (v := hp l[i].2.1) (by rw [heldF_at hk.nodup hi]; rfl) ?_
    refine V2 ?_
    refine Zij ([cl p (pcl s c) 102, fmA c.bl (lastF s.last)]) [7, 13, 15, 16, 17, 19] (.q 0 (.q 1 (.q 2 (.q 4 (.q 5 (.q 6 (.q 8 (.q 9 (.q 10 (.q 11 (.q 12 (.q 14 (.r 3 (.r 7 (.r 13 (.r 15 (.r 16 (.r 17 (.q 18 (.a 19 (.e 20 false .nil))))))))))))))))))))) (by kernel_rfl) (by kernel_rfl) (Imp.arr qV) ?_
    refine W7 ?_
    refine Zim rfl (Zk6 rfl) ?_
    refine W4 ?_
    refine Ziv rfl rfl qH (pg_f hkey (k := 0) rfl) ?_
    refine Ziv rfl rfl qH (pg_f hkey (k := 8) rfl) ?_
    refine Ziv rfl rfl qH (pg_f hkey (k := 6) rfl) ?_
    refine Zod rfl rfl rfl qH (v := .agg (plc op)) (by exact ho1) ?_
    refine W1 ?_
    refine Ziz rfl (Zkn (y := 1#32) rfl rfl) ?_
    refine Zim rfl (Zdm (cs := plc ⟨s.round, BitVec.ofNat 32 s.writes, BitVec.ofInt 32 l[i].1.page, op.version + 1#32⟩) rfl) ?_
    refine Zir rfl (cs := #[u64b 0#64, u32b 0#32, u32b 0#32, u32b 0#32]) rfl ?_; intro b6
    refine Ziq rfl ?_
    first|refine Zhy rfl rfl qR qZ qN qZ ?_|refine Zhx rfl rfl qR qZ qN qZ rfl ?_
    refine Zg3 ⟨(fun hh => Bool.noConfusion hh), ?_⟩
    refine Zik ?_
    refine Ct.o ?_
    rw [← enx]
    refine Zgp (((Imp.arr (N := star frA l :: cl b6 (plc (PagerS.nextPl s l[i].1.page)) 108 :: cl p (pcl s c) 102 :: fmA c.bh (heldF l) :: fmA c.bl (lastF s.last) :: ownI c.oa c.oc (fpages l) :: [hostA c.ph h]) qV).trans (star_at hi)).trans (Imp.unapp (L := [cl l[i].2.1 #[.slice l[i].2.2.1 l[i].1.text.length l[i].2.2.2, nvv l[i].1.is] 106, ownB l[i].2.2.1 l[i].2.2.2 l[i].1.text]))) ?_
    simp only [List.cons_append, List.nil_append]
    refine Ct.o ?_
    refine Zij ([cl p (pcl s c) 102, cl b6 (plc (PagerS.nextPl s l[i].1.page)) 108, cl l[i].2.1 #[.slice l[i].2.2.1 l[i].1.text.length l[i].2.2.2, nvv l[i].1.is] 106]) [4, 8] (.q 0 (.q 1 (.q 2 (.q 5 (.q 6 (.q 7 (.r 3 (.r 4 (.r 8 (.e 9 false (.q 10 (.q 11 (.q 12 (.q 13 (.q 14 .nil))))))))))))))) (by kernel_rfl) (by kernel_rfl) (Imp.arr qV) ?_
    refine W6 ?_
    refine Zix (n := 32) rfl rfl qH qZ (pg_key hkey) ?_
    refine W2 ?_
    refine Ziq rfl ?_
    refine Zh8 rfl (by kernel_rfl) (hsl) rfl qT ?_
    rintro _ _ ⟨xa, xc, rfl, rfl⟩
    refine Y1 ?_
    refine Zg3 ⟨(fun hh => Bool.noConfusion hh), ?_⟩
    refine W6 ?_
    refine Y3 ?_
    refine Zhm 55 rfl (decide_eq_true (rfl)) ?_
    refine Y6 ?_
    refine Zhp rfl qH (pg_st) ?_
    refine Y2 ?_
    refine Znt rfl (met_write c.ph) (by kernel_rfl) (hwr xa xc) rfl qT ?_
    rintro _ _ ⟨rfl, rfl⟩
    refine V3 ?_
    by_cases h0 : (HostS.writeR h l[i].1.page (PagerS.boxOf s l[i].1.page)).1 = 0
    · rw [writeP_ok hw h0]
      refine Y3 ?_
      refine Zhn 64 rfl (decide_eq_false ((fun hh => hh h0))) ?_
      refine V2 ?_
      refine Zij ([cl p (pcl s c) 102, cl b6 (plc (PagerS.nextPl s l[i].1.page)) 108]) [5] (.q 0 (.q 1 (.q 2 (.q 4 (.r 3 (.r 5 (.e 6 false .nil))))))) (by kernel_rfl) (by kernel_rfl) (Imp.arr qV) ?_
      refine W4 ?_
      refine Ziv rfl rfl qH (pg_f hkey (k := 6) rfl) ?_
      refine W1 ?_
      refine Ziq rfl ?_; refine Zof (v := .agg (plc (PagerS.nextPl s l[i].1.page))) rfl rfl rfl qR ?_; refine Zg3 ⟨(fun hh => Bool.noConfusion hh), ?_⟩
      refine Zik ?_
      refine Ct.o ?_
      rw [last_set]
      have ew : BitVec.ofNat 32 s.writes + 1#32 = BitVec.ofNat 32 (s.writes + 1) := by rw [BitVec.ofNat_add]
      refine Y4 ?_
      refine Zhp rfl qH (pg_f hkey (k := 8) rfl) ?_
      refine Zhg (Zkn (y := 1#32) rfl rfl) ?_
      refine Y2 ?_
      refine Zht rfl rfl qR qZ (pg_s (s := s) (c := c) (s' := PagerS.wroteP s l[i].1.page) (c' := c) hkey (k := 8) (by rw [ew]; rfl) rfl rfl) ?_
      refine V10 ?_
      refine rx1 (Zg9 rfl (Zg7)) ?_
      have hok := PagerS.ok_wrote hk.ok l[i].1.page (by omega)
      have hwh := wash_held hk hi
      refine ⟨_, ⟨rfl, wash l i hi, ⟨hok, rfl, hwh, by rw [wash_pages]; exact hk.n⟩, rfl⟩, ?_⟩
      rw [wash_F hk.nodup hi, wash_pages hi]
      have hst : Imp ([cl l[i].2.1 #[.slice l[i].2.2.1 l[i].1.text.length l[i].2.2.2, nvv 1] 106, ownB l[i].2.2.1 l[i].2.2.2 l[i].1.text] ++ (star frA (l.eraseIdx i) :: cl p (pcl (PagerS.wroteP s l[i].1.page) c) 102 :: fmA c.bh (heldF l) :: fmA c.bl (lastF (PagerS.wroteP s l[i].1.page).last) :: ownI c.oa c.oc (fpages l) :: [hostA c.ph (HostS.writeR h l[i].1.page (PagerS.boxOf s l[i].1.page)).2])) (star frA (wash l i hi) :: cl p (pcl (PagerS.wroteP s l[i].1.page) c) 102 :: fmA c.bh (heldF l) :: fmA c.bl (lastF (PagerS.wroteP s l[i].1.page).last) :: ownI c.oa c.oc (fpages l) :: [hostA c.ph (HostS.writeR h l[i].1.page (PagerS.boxOf s l[i].1.page)).2]) :=
        (Imp.app (L := [cl l[i].2.1 #[.slice l[i].2.2.1 l[i].1.text.length l[i].2.2.2, nvv 1] 106, ownB l[i].2.2.1 l[i].2.2.2 l[i].1.text])).trans (star_back (A := frA) hi ({ l[i].1 with is := 1 }, l[i].2))
      simp only [List.cons_append, List.nil_append] at hst
      exact ((Imp.arr qV).trans hst).trans qI
    · rw [writeP_no hw h0]
      refine Y3 ?_
      refine Zhm 64 rfl (decide_eq_true (h0)) ?_
      refine Y5 ?_
      refine Zh8 rfl (by kernel_rfl) (die_x hkey (HostS.writeR h l[i].1.page (PagerS.boxOf s l[i].1.page)).1) rfl qT ?_
      rintro _ _ ⟨rfl, rfl⟩
      refine V3 ?_
      refine rx1 (Zg9 rfl (Zg7)) ?_
      refine ⟨_, ⟨rfl, l, ⟨PagerS.ok_die hk.ok _ herr, rfl, hk.held, hk.n⟩, rfl⟩, ?_⟩
      have hst : Imp ([cl l[i].2.1 #[.slice l[i].2.2.1 l[i].1.text.length l[i].2.2.2, nvv l[i].1.is] 106, ownB l[i].2.2.1 l[i].2.2.2 l[i].1.text] ++ (star frA (l.eraseIdx i) :: cl p (pcl (PagerS.die s (HostS.writeR h l[i].1.page (PagerS.boxOf s l[i].1.page)).1) c) 102 :: fmA c.bh (heldF l) :: fmA c.bl (lastF s.last) :: ownI c.oa c.oc (fpages l) :: [hostA c.ph (HostS.writeR h l[i].1.page (PagerS.boxOf s l[i].1.page)).2])) (star frA l :: cl p (pcl (PagerS.die s (HostS.writeR h l[i].1.page (PagerS.boxOf s l[i].1.page)).1) c) 102 :: fmA c.bh (heldF l) :: fmA c.bl (lastF s.last) :: ownI c.oa c.oc (fpages l) :: [hostA c.ph (HostS.writeR h l[i].1.page (PagerS.boxOf s l[i].1.page)).2]) := by
        have hb := (Imp.app (L := [cl l[i].2.1 #[.slice l[i].2.2.1 l[i].1.text.length l[i].2.2.2, nvv l[i].1.is] 106, ownB l[i].2.2.1 l[i].2.2.2 l[i].1.text]) (M := star frA (l.eraseIdx i) :: cl p (pcl (PagerS.die s (HostS.writeR h l[i].1.page (PagerS.boxOf s l[i].1.page)).1) c) 102 :: fmA c.bh (heldF l) :: fmA c.bl (lastF s.last) :: ownI c.oa c.oc (fpages l) :: [hostA c.ph (HostS.writeR h l[i].1.page (PagerS.boxOf s l[i].1.page)).2])).trans (star_back (A := frA) hi l[i])
        rwa [List.set_getElem_self] at hb
      simp only [List.cons_append, List.nil_append] at hst
      exact ((Imp.arr qV).trans hst).trans qI
end
end Go.Sl

/- pager: room, walked; what stays of a host under a pager. -/
set_option maxHeartbeats 4000000
set_option maxRecDepth 10000
set_option linter.unusedVariables false
set_option linter.unusedSimpArgs false
namespace Go.Sl
open Go Go.Proofs
attribute [local irreducible] pt old pur ex all den denOps denS xOps xC cX CX xthen xblk xcut xloop xng retX resX Calls PV Rd Con
attribute [local irreducible] hostA pcl pgSealB pgOpenR PagerS.writeP frA
open PagerS (PS Over)
theorem does_ps (h : HostS.HS) (op page : Int) (b : HostS.Bytes) (act : HostS.HS → HostS.HS) (ha : ∀ s, (act s).pages = s.pages ∧ (act s).size = s.size ∧ (act s).ops = s.ops) : (HostS.does h op page b act).1.pages = h.pages ∧ (HostS.does h op page b act).1.size = h.size ∧ (HostS.does h op page b act).1.ops ≤ h.ops + 1 := by
  have h2 := ha (HostS.logged h op page b)
  unfold HostS.does
  split
  · exact ⟨rfl, rfl, Nat.le_succ _⟩
  · dsimp only
    split
    · exact ⟨rfl, rfl, Nat.le_refl _⟩
    · split
      · exact ⟨h2.1, h2.2.1, Nat.le_of_eq h2.2.2⟩
      · exact ⟨h2.1, h2.2.1, Nat.le_of_eq h2.2.2⟩
theorem writeR_ps (h : HostS.HS) (page : Int) (b : HostS.Bytes) : (HostS.writeR h page b).2.pages = h.pages ∧ (HostS.writeR h page b).2.size = h.size ∧ (HostS.writeR h page b).2.ops ≤ h.ops + 1 := by
  unfold HostS.writeR
  split
  · split
    · exact does_ps h 1 page b _ (fun _ => ⟨rfl, rfl, rfl⟩)
    · exact ⟨rfl, rfl, Nat.le_succ _⟩
  · exact ⟨rfl, rfl, Nat.le_succ _⟩
section
variable {s : PS} {h : HostS.HS}
theorem writeP_cases (s : PS) (h : HostS.HS) (n : Int) : (PagerS.writeP s h n = (130, PagerS.die s 130, h)) ∨ (∃ e, e ≠ 0 ∧ e ≤ 1000 ∧ PagerS.writeP s h n = (e, PagerS.die s e, (HostS.writeR h n (PagerS.boxOf s n)).2)) ∨ (s.writes ≠ 4294967295 ∧ PagerS.writeP s h n = (0, PagerS.wroteP s n, (HostS.writeR h n (PagerS.boxOf s n)).2)) := by
  by_cases hw : s.writes = 4294967295
  · exact .inl (writeP_worn hw)
  · by_cases h0 : (HostS.writeR h n (PagerS.boxOf s n)).1 = 0
    · exact .inr (.inr ⟨hw, writeP_ok hw h0⟩)
    · exact .inr (.inl ⟨_, h0, writeR_err _ _ _, writeP_no hw h0⟩)
theorem writeP_over (n : Int) (ho : Over s h) : Over (PagerS.writeP s h n).2.1 (PagerS.writeP s h n).2.2 ∧ (PagerS.writeP s h n).2.2.ops ≤ h.ops + 1 := by
  obtain ⟨w1, w2, w3⟩ := writeR_ps h n (PagerS.boxOf s n)
  rcases writeP_cases s h n with e|⟨x, _, _, e⟩|⟨_, e⟩ <;> rw [e]
  · exact ⟨⟨ho.pages, ho.size⟩, Nat.le_succ _⟩
  · exact ⟨⟨w1.trans ho.pages, w2.trans ho.size⟩, w3⟩
  · exact ⟨⟨w1.trans ho.pages, w2.trans ho.size⟩, w3⟩
end
section
variable {p ph : Nat} {s : PS} {h : HostS.HS}
end
end Go.Sl

/- pager: room, walked. -/
set_option maxHeartbeats 4000000
set_option maxRecDepth 10000
set_option linter.unusedVariables false
set_option linter.unusedSimpArgs false
namespace Go.Sl
open Go Go.Proofs
attribute [local irreducible] pt old pur ex all den denOps denS xOps xC cX CX xthen xblk xcut xloop xng retX resX Calls PV Rd Con
attribute [local irreducible] hostA pcl pgSealB pgOpenR PagerS.writeP
open PagerS (PS Over)
theorem heldF_tail {x : FV} {r : List FV} (hn : (fpages (x :: r)).Nodup) : fput (heldF (x :: r)) x.1.page none = heldF r := by
  funext n
  unfold fput
  rw [fpages, List.map_cons, List.nodup_cons] at hn
  by_cases e : n = x.1.page
  · rw [if_pos e, e, heldF_no hn.1]
  · rw [if_neg e]
    unfold heldF
    rw [List.find?_cons_of_neg (by simp only [beq_iff_eq]; exact fun hh => e hh.symm)]
theorem pgok_tail {ph : Nat} {s : PS} {c : PC} {x : FV} {r : List FV} (h : PgOk ph s c (x :: r)) (oa : Option Addr) (oc : Nat) : PgOk ph { s with held := s.held.tail } { c with oa := oa, n := (fpages r).length, oc := oc } r :=
  ⟨PagerS.ok_tail h.ok, h.ph, by show s.held.tail = _; rw [h.held]; rfl, rfl⟩
theorem changedAt_at {ph : Nat} {s : PS} {c : PC} {l : List FV} (h : PgOk ph s c l) {i : Nat} (hi : i < l.length) : PagerS.changedAt s l[i].1.page = (l[i].1.is == 2) := by unfold PagerS.changedAt; rw [h.fr hi]; rfl
section
variable {p ph : Nat} {s : PS} {h : HostS.HS}
theorem room_x (hov : Over s h) (hops : h.ops < 3518437208880) :
    Con Tryz.prog 54 [hp p] [pgA p ph s, hostA ph h] (fun r M => r = nvv (PagerS.roomP s h).1 ∧ M = [pgA p ph (PagerS.roomP s h).2.1, hostA ph (PagerS.roomP s h).2.2]) := by
  refine Con.pgA fun c l hk => ?_
  simp only [List.cons_append, List.nil_append]
  have hkey := hk.ok.key
  have hl16 := hk.len
  have hcn := hk.n
  have hhl : s.held.length = l.length := by rw [hk.held, List.length_map]
  have hfl : (fpages l).length = l.length := by simp [fpages]
  have hwn := hk.ok.w0
  by_cases hw : l.length < s.window
  · have e : PagerS.roomP s h = (0, s, h) := by unfold PagerS.roomP; rw [if_pos (by rw [hhl]; exact hw)]
    rw [e]
    refine fn_x Tryz.func54 rfl rfl rfl Tryz.mixed (by kernel_rfl) ?_
    intro w0
    refine V3 ?_
    refine Zij ([cl p (pcl s c) 102]) [8] (.q 0 (.q 1 (.q 2 (.q 5 (.q 6 (.q 7 (.r 3 (.q 4 (.r 8 (.q 9 .nil)))))))))) (by kernel_rfl) (by kernel_rfl) (Imp.arr qV) ?_
    refine W6 ?_
    refine Ziv rfl rfl qH (pg_f hkey (k := 5) rfl) ?_
    refine W1 ?_
    refine Ziv rfl rfl qH (pg_f hkey (k := 1) rfl) ?_
    refine W1 ?_
    refine Zi5 14 rfl (decide_eq_true ((by omega))) ?_
    refine Zik ?_
    refine V4 ?_
    refine rx1 (Zg9 rfl (Zg7)) ?_
    exact ⟨_, ⟨rfl, rfl⟩, (Imp.arr (N := pgL p s c l ++ [hostA ph h]) qV).trans (pgA_mk hk)⟩
  · cases l with
    | nil => simp at hw; omega
    | cons x r =>
      have hnd := hk.nodup
      have hhd : (s.held.head?.map PagerS.Fr.page).getD 0 = x.1.page := by rw [hk.held]; rfl
      have hi0 : 0 < (x :: r).length := Nat.succ_pos _
      have hf0 := heldF_at hnd hi0
      have hca := changedAt_at hk hi0
      simp only [List.getElem_cons_zero] at hf0 hca
      refine Con.get (fun w0 w F H => own_someN (n := (fpages (x :: r)).length) (a := c.oa) (.there (.there (.there .here))) (by simp [fpages]) H) ?_
      rintro ⟨g, hg⟩
      obtain ⟨ph', bh, oa, cn, oc, bl⟩ := c
      dsimp only at hg hcn
      subst hg hcn
      obtain rfl : ph = ph' := hk.ph.symm
      refine fn_x Tryz.func54 rfl rfl rfl Tryz.mixed (by kernel_rfl) ?_
      intro w0
      refine V3 ?_
      refine Zij ([cl p (pcl s ⟨ph, bh, some ⟨g, 0, none⟩, (fpages (x :: r)).length, oc, bl⟩) 102]) [8] (.q 0 (.q 1 (.q 2 (.q 5 (.q 6 (.q 7 (.r 3 (.q 4 (.r 8 (.q 9 .nil)))))))))) (by kernel_rfl) (by kernel_rfl) (Imp.arr qV) ?_
      refine W6 ?_
      refine Ziv rfl rfl qH (pg_f hkey (k := 5) rfl) ?_
      refine W1 ?_
      refine Ziv rfl rfl qH (pg_f hkey (k := 1) rfl) ?_
      refine W1 ?_
      refine Zi6 14 rfl (decide_eq_false ((by rw [hfl]; exact hw))) ?_
      refine Zik ?_
      refine V1 ?_
      have hg0 : (zv (fpages (x :: r)))[0]? = some (.int .i64 x.1.page) := rfl
      refine Y4 ?_
      refine Zhp rfl qH (pg_f hkey (k := 5) rfl) ?_
      refine Zhg (Zl4 (n := 0) rfl rfl (by rw [hfl]; exact hi0)) ?_
      refine Zff rfl (((Rd.own (n := (fpages (x :: r)).length) qH).at0 (by rw [hfl]; exact hi0) hg0)) ?_
      refine V2 ?_
      refine Zgp (((Imp.arr (N := star frA (x :: r) :: cl p (pcl s ⟨ph, bh, some ⟨g, 0, none⟩, (fpages (x :: r)).length, oc, bl⟩) 102 :: fmA bh (heldF (x :: r)) :: fmA bl (lastF s.last) :: ownI (some ⟨g, 0, none⟩) oc (fpages (x :: r)) :: [hostA ph h]) qV).trans star_uncons).trans (Imp.unapp (L := [cl x.2.1 #[.slice x.2.2.1 x.1.text.length x.2.2.2, nvv x.1.is] 106, ownB x.2.2.1 x.2.2.2 x.1.text]))) ?_
      simp only [List.cons_append, List.nil_append]
      refine Y4 ?_
      refine Zhp rfl qH (pg_f hkey (k := 4) rfl) ?_
      refine Y1 ?_
      refine Zoc rfl rfl qH (v := hp x.2.1) (by rw [hf0]; rfl) ?_
      refine V5 ?_
      by_cases h2 : x.1.is = 2
      · refine Zge (by show Value.bool (decide _) = _; rw [decide_eq_true h2]) ?_
        refine Ct.o ?_
        refine Zgp (((Imp.arr (N := [cl x.2.1 #[.slice x.2.2.1 x.1.text.length x.2.2.2, nvv x.1.is] 106, ownB x.2.2.1 x.2.2.2 x.1.text] ++ (star frA r :: cl p (pcl s ⟨ph, bh, some ⟨g, 0, none⟩, (fpages (x :: r)).length, oc, bl⟩) 102 :: fmA bh (heldF (x :: r)) :: fmA bl (lastF s.last) :: ownI (some ⟨g, 0, none⟩) oc (fpages (x :: r)) :: [hostA ph h])) qV).trans (Imp.app (L := [cl x.2.1 #[.slice x.2.2.1 x.1.text.length x.2.2.2, nvv x.1.is] 106, ownB x.2.2.1 x.2.2.2 x.1.text]))).trans (star_cons (A := frA) (x := x) (l := r))) ?_
        have hwx := pwrite_g (p := p) hk hov hops hi0
        simp only [List.getElem_cons_zero, List.cons_append, List.nil_append] at hwx
        have hch : PagerS.changedAt s x.1.page = true := by rw [hca, h2]; rfl
        refine Y3 ?_
        refine Zh8 rfl (by kernel_rfl) (hwx) rfl qT ?_
        rintro _ _ ⟨rfl, l', hk', rfl⟩
        refine V3 ?_
        by_cases h0 : (PagerS.writeP s h x.1.page).1 = 0
        · have e : PagerS.roomP s h = (0, { (PagerS.writeP s h x.1.page).2.1 with held := (PagerS.writeP s h x.1.page).2.1.held.tail }, (PagerS.writeP s h x.1.page).2.2) := by
            unfold PagerS.roomP
            rw [if_neg (by rw [hhl]; exact hw)]
            dsimp only
            rw [hhd, if_pos hch, if_pos h0]
          rw [e]
          have hsame : PagerS.numbers (PagerS.writeP s h x.1.page).2.1 = PagerS.numbers s := by
            rcases writeP_cases s h x.1.page with ee|⟨_, _, _, ee⟩|⟨_, ee⟩ <;> rw [ee]
            · rfl
            · rfl
            · exact PagerS.cleaned_pages _ _
          have hfp : fpages l' = fpages (x :: r) := by
            have a1 : PagerS.numbers (PagerS.writeP s h x.1.page).2.1 = fpages l' := by unfold PagerS.numbers; rw [hk'.held, List.map_map]; rfl
            have a2 : PagerS.numbers s = fpages (x :: r) := by unfold PagerS.numbers; rw [hk.held, List.map_map]; rfl
            rw [← a1, hsame, a2]
          generalize (PagerS.writeP s h x.1.page).2.1 = s1 at hk' hsame ⊢
          generalize (PagerS.writeP s h x.1.page).2.2 = h1 at ⊢
          cases l' with
          | nil => simp [fpages] at hfp
          | cons x1 r1 =>
            have hx1 : x1.1.page = x.1.page := by simpa [fpages] using (List.cons.inj hfp).1
            have hkey1 := hk'.ok.key
            have hnd1 := hk'.nodup
            rw [← hfp]
            refine Y3 ?_
            refine Zhn 35 rfl (decide_eq_false ((fun hh => hh h0))) ?_
            refine V2 ?_
            have hs1 := pg_size (s := s1) (c := ⟨ph, bh, some ⟨g, 0, none⟩, (fpages (x1 :: r1)).length, oc, bl⟩) hkey1
            refine Y5 ?_
            refine Zhp rfl qH (pg_f hkey1 (k := 5) rfl) ?_
            refine Zh8 rfl (by kernel_rfl) (delete_x (g := g) (c := oc) (i := 0) (zs := fpages (x1 :: r1)) (by simp [fpages]) (by have := hk'.len; simp [fpages] at *; omega)) rfl qT ?_
            rintro _ _ ⟨rfl, rfl⟩
            refine Y3 ?_
            refine Zhw rfl rfl qR qZ (pg_s (s := s1) (c := ⟨ph, bh, some ⟨g, 0, none⟩, (fpages (x1 :: r1)).length, oc, bl⟩) (s' := { s1 with held := s1.held.tail }) (c' := ⟨ph, bh, some ⟨g, 0, none⟩, (fpages r1).length, oc, bl⟩) hkey1 (k := 5) rfl rfl rfl) ?_
            refine Y5 ?_
            refine Zhp rfl qH (pg_f (s := { s1 with held := s1.held.tail }) hkey1 (k := 4) rfl) ?_
            refine Y1 ?_
            refine Zog rfl rfl qR ?_
            refine V4 ?_
            refine rx1 (Zg9 rfl (Zg7)) ?_
            rw [← hx1, heldF_tail hnd1]
            have ht := pgok_tail hk' (some ⟨g, 0, none⟩) oc
            exact ⟨_, ⟨rfl, rfl⟩, ((((Imp.arr (N := star frA (x1 :: r1) :: cl p (pcl { s1 with held := s1.held.tail } ⟨ph, bh, some ⟨g, 0, none⟩, (fpages r1).length, oc, bl⟩) 102 :: fmA bh (heldF r1) :: fmA bl (lastF s1.last) :: ownI (some ⟨g, 0, none⟩) oc (fpages r1) :: [hostA ph h1]) qV).trans star_uncons).trans Imp.tail).trans (Imp.arr (N := pgL p { s1 with held := s1.held.tail } ⟨ph, bh, some ⟨g, 0, none⟩, (fpages r1).length, oc, bl⟩ r1 ++ [hostA ph h1]) qV)).trans (pgA_mk ht)⟩
        · have e : PagerS.roomP s h = PagerS.writeP s h x.1.page := by
            unfold PagerS.roomP
            rw [if_neg (by rw [hhl]; exact hw)]
            dsimp only
            rw [hhd, if_pos hch, if_neg h0]
          rw [e]
          refine Y3 ?_
          refine Zhm 35 rfl (decide_eq_true (h0)) ?_
          refine V6 ?_
          refine rx1 (Zg9 rfl (Zg7)) ?_
          exact ⟨_, ⟨rfl, rfl⟩, (Imp.arr (N := pgL p (PagerS.writeP s h x.1.page).2.1 ⟨ph, bh, some ⟨g, 0, none⟩, (fpages (x :: r)).length, oc, bl⟩ l' ++ [hostA ph (PagerS.writeP s h x.1.page).2.2]) qV).trans (pgA_mk hk')⟩
      · refine Zgf (by show Value.bool (decide _) = _; rw [decide_eq_false h2]) ?_
        refine Ct.o ?_
        have hch : ¬ PagerS.changedAt s x.1.page = true := by rw [hca]; simpa using h2
        have e : PagerS.roomP s h = (0, { s with held := s.held.tail }, h) := by
          unfold PagerS.roomP
          rw [if_neg (by rw [hhl]; exact hw)]
          dsimp only
          rw [hhd, if_neg hch]
        rw [e]
        have hs1 := pg_size (s := s) (c := ⟨ph, bh, some ⟨g, 0, none⟩, (fpages (x :: r)).length, oc, bl⟩) hkey
        refine Y5 ?_
        refine Zhp rfl qH (pg_f hkey (k := 5) rfl) ?_
        refine Zh8 rfl (by kernel_rfl) (delete_x (g := g) (c := oc) (i := 0) (zs := fpages (x :: r)) (by simp [fpages]) (by have := hk.len; simp [fpages] at *; omega)) rfl qT ?_
        rintro _ _ ⟨rfl, rfl⟩
        refine Y3 ?_
        refine Zhw rfl rfl qR qZ (pg_s (s := s) (c := ⟨ph, bh, some ⟨g, 0, none⟩, (fpages (x :: r)).length, oc, bl⟩) (s' := { s with held := s.held.tail }) (c' := ⟨ph, bh, some ⟨g, 0, none⟩, (fpages r).length, oc, bl⟩) hkey (k := 5) rfl rfl rfl) ?_
        refine Y5 ?_
        refine Zhp rfl qH (pg_f (s := { s with held := s.held.tail }) hkey (k := 4) rfl) ?_
        refine Y1 ?_
        refine Zog rfl rfl qR ?_
        refine V4 ?_
        refine rx1 (Zg9 rfl (Zg7)) ?_
        rw [heldF_tail hnd]
        have ht := pgok_tail hk (some ⟨g, 0, none⟩) oc
        exact ⟨_, ⟨rfl, rfl⟩, (Imp.arr (N := pgL p { s with held := s.held.tail } ⟨ph, bh, some ⟨g, 0, none⟩, (fpages r).length, oc, bl⟩ r ++ [hostA ph h]) qV).trans (pgA_mk ht)⟩
end
end Go.Sl

/- pager: what use does to what is held; what room leaves. -/
set_option maxHeartbeats 4000000
set_option maxRecDepth 10000
set_option linter.unusedVariables false
set_option linter.unusedSimpArgs false
namespace Go.Sl
open Go Go.Proofs
attribute [local irreducible] pt old pur ex all den denOps denS xOps xC cX CX xthen xblk xcut xloop xng retX resX Calls PV Rd Con
attribute [local irreducible] hostA pcl pgSealB pgOpenR PagerS.writeP
open PagerS (PS Over)
/-- The others. -/
def othersF (l : List FV) (n : Int) : List FV := l.filter fun e => !(e.1.page == n)
theorem others_pages (l : List FV) (n : Int) : fpages (othersF l n) = (fpages l).filter fun z => !(z == n) := by
  unfold othersF fpages
  rw [List.filter_map]; rfl
theorem others_no {l : List FV} {n : Int} (h : n ∉ fpages l) : othersF l n = l := List.filter_eq_self.2 fun e he => by
  simp only [Bool.not_eq_true', beq_eq_false_iff_ne, ne_eq]
  exact fun hh => h (hh ▸ List.mem_map.2 ⟨e, he, rfl⟩)
theorem others_at {l : List FV} (hn : (fpages l).Nodup) {i : Nat} (hi : i < l.length) : othersF l l[i].1.page = l.eraseIdx i := by
  rw [List.eraseIdx_eq_take_drop_succ]
  have e : l = l.take i ++ (l[i] :: l.drop (i + 1)) := by rw [← List.drop_eq_getElem_cons hi, List.take_append_drop]
  have key : ∀ (A B : List FV) (x : FV), (fpages (A ++ x :: B)).Nodup → (A ++ x :: B).filter (fun e => !(e.1.page == x.1.page)) = A ++ B := by
    intro A B x h
    rw [fpages, List.map_append, List.map_cons, List.nodup_append] at h
    obtain ⟨_, h2, h3⟩ := h
    rw [List.nodup_cons] at h2
    rw [List.filter_append, List.filter_cons_of_neg (by simp)]
    rw [List.filter_eq_self.2, List.filter_eq_self.2]
    · intro e he
      simp only [Bool.not_eq_true', beq_eq_false_iff_ne, ne_eq]
      exact fun hh => h2.1 (hh ▸ List.mem_map.2 ⟨e, he, rfl⟩)
    · intro e he
      simp only [Bool.not_eq_true', beq_eq_false_iff_ne, ne_eq]
      exact fun hh => h3 _ (List.mem_map.2 ⟨e, he, rfl⟩) _ (List.mem_cons_self ..) hh
  have := key (l.take i) (l.drop (i + 1)) l[i] (by rw [← e]; exact hn)
  rw [← e] at this
  exact this
theorem heldF_use (l : List FV) (n : Int) (e : FV) (he : e.1.page = n) : heldF (othersF l n ++ [e]) = fput (heldF l) n (some (hp e.2.1)) := by
  funext k
  unfold heldF fput
  rw [List.find?_append]
  by_cases hk : k = n
  · subst hk
    rw [if_pos rfl, List.find?_eq_none.2 (by
      intro x hx
      have := (List.mem_filter.1 hx).2
      simp only [Bool.not_eq_true', beq_eq_false_iff_ne, ne_eq] at this
      simpa using this)]
    simp [he]
  · rw [if_neg hk]
    have e1 : (othersF l n).find? (fun e => e.1.page == k) = l.find? fun e => e.1.page == k := by
      unfold othersF
      rw [List.find?_filter]
      congr 1
      funext x
      by_cases hx : x.1.page = k
      · simp [hx, hk]
      · simp [hx]
    rw [e1]
    cases hf : l.find? (fun e => e.1.page == k) with
    | some x =>
      show _ = Option.map (fun e : FV => hp e.2.1) (l.find? fun e => e.1.page == k)
      rw [hf]; rfl
    | none =>
      have : ¬ e.1.page = k := fun hh => hk (by rw [← hh, he])
      show _ = Option.map (fun e : FV => hp e.2.1) (l.find? fun e => e.1.page == k)
      rw [hf]
      simp [this]
theorem used_pages (l : List FV) (n : Int) (e : FV) (he : e.1.page = n) : fpages (othersF l n ++ [e]) = used (fpages l) n := by
  unfold used
  rw [← others_pages]
  simp [fpages, he]
theorem pgok_use {ph : Nat} {s : PS} {c : PC} {l : List FV} (h : PgOk ph s c l) (e : FV) (hr : (PagerS.frOf s e.1.page).isSome = true ∨ s.held.length < s.window) (hp : 0 ≤ e.1.page ∧ e.1.page < s.pages) (hl : e.1.text.length = s.text) (hi : e.1.is ≤ 2) (oa : Option Addr) (oc : Nat) :
    PgOk ph (PagerS.useP s e.1) { c with oa := oa, n := (used (fpages l) e.1.page).length, oc := oc } (othersF l e.1.page ++ [e]) := by
  refine ⟨PagerS.ok_use h.ok hr hp hl hi, h.ph, ?_, by rw [used_pages l e.1.page e rfl]⟩
  show (s.held.filter fun g => !(g.page == e.1.page)) ++ [e.1] = _
  rw [h.held, List.filter_map, List.map_append]
  rfl
theorem used_len {ph : Nat} {s : PS} {c : PC} {l : List FV} (h : PgOk ph s c l) (e : FV) : max s.most (used (fpages l) e.1.page).length = (PagerS.useP s e.1).most := by
  show _ = max s.most ((s.held.filter fun g => !(g.page == e.1.page)) ++ [e.1]).length
  unfold used
  rw [← others_pages, h.held, List.filter_map, List.length_append, List.length_append, List.length_map]
  simp [fpages, othersF, Function.comp_def]
theorem roomP_over {s : PS} {h : HostS.HS} (ho : Over s h) : Over (PagerS.roomP s h).2.1 (PagerS.roomP s h).2.2 ∧ (PagerS.roomP s h).2.2.ops ≤ h.ops + 1 := by
  unfold PagerS.roomP
  split
  · exact ⟨ho, Nat.le_succ _⟩
  · dsimp only
    obtain ⟨w1, w2⟩ := writeP_over ((s.held.head?.map PagerS.Fr.page).getD 0) ho
    split
    · split
      · exact ⟨⟨w1.pages, w1.size⟩, w2⟩
      · exact ⟨w1, w2⟩
    · exact ⟨⟨ho.pages, ho.size⟩, Nat.le_succ _⟩
theorem writeP_same (s : PS) (h : HostS.HS) (n : Int) : PagerS.numbers (PagerS.writeP s h n).2.1 = PagerS.numbers s ∧ (PagerS.writeP s h n).2.1.window = s.window ∧ (PagerS.writeP s h n).2.1.pages = s.pages ∧ (PagerS.writeP s h n).2.1.text = s.text ∧ (PagerS.writeP s h n).2.1.key = s.key := by
  rcases writeP_cases s h n with ee|⟨_, _, _, ee⟩|⟨_, ee⟩ <;> rw [ee]
  · exact ⟨rfl, rfl, rfl, rfl, rfl⟩
  · exact ⟨rfl, rfl, rfl, rfl, rfl⟩
  · exact ⟨PagerS.cleaned_pages _ _, rfl, rfl, rfl, rfl⟩
/-- Behind room there is room; what is not held is not held. -/
theorem roomP_same {s : PS} {h : HostS.HS} (hk : PagerS.Ok s) : (PagerS.roomP s h).2.1.window = s.window ∧ (PagerS.roomP s h).2.1.pages = s.pages ∧ (PagerS.roomP s h).2.1.text = s.text ∧ (PagerS.roomP s h).2.1.key = s.key ∧ (∀ n, n ∉ PagerS.numbers s → n ∉ PagerS.numbers (PagerS.roomP s h).2.1) ∧ ((PagerS.roomP s h).1 = 0 → (PagerS.roomP s h).2.1.held.length < s.window) := by
  have tl : ∀ (x : PS) n, n ∉ PagerS.numbers x → n ∉ PagerS.numbers { x with held := x.held.tail } := fun x n hn hh => hn (by
    unfold PagerS.numbers at hh ⊢
    obtain ⟨f, hf, e⟩ := List.mem_map.1 hh
    exact List.mem_map.2 ⟨f, List.mem_of_mem_tail hf, e⟩)
  have hw0 := hk.w0
  have hm := hk.many
  unfold PagerS.roomP
  split
  · rename_i hl; exact ⟨rfl, rfl, rfl, rfl, fun _ h => h, fun _ => hl⟩
  · rename_i hl
    dsimp only
    obtain ⟨w1, w2, w3, w4, w5⟩ := writeP_same s h ((s.held.head?.map PagerS.Fr.page).getD 0)
    have hlen : (PagerS.writeP s h ((s.held.head?.map PagerS.Fr.page).getD 0)).2.1.held.length = s.held.length := by
      have := congrArg List.length w1
      unfold PagerS.numbers at this
      rwa [List.length_map, List.length_map] at this
    split
    · split
      · refine ⟨w2, w3, w4, w5, fun n hn => tl _ n (by rw [w1]; exact hn), fun _ => ?_⟩
        show (PagerS.writeP s h _).2.1.held.tail.length < _
        rw [List.length_tail, hlen]; omega
      · rename_i h0
        exact ⟨w2, w3, w4, w5, fun n hn => by rw [w1]; exact hn, fun hh => absurd hh h0⟩
    · refine ⟨rfl, rfl, rfl, rfl, fun n hn => tl s n hn, fun _ => ?_⟩
      show s.held.tail.length < _
      rw [List.length_tail]; omega
end Go.Sl

/- pager: its small methods over one piece; what use leaves, packed. -/
set_option maxHeartbeats 4000000
set_option maxRecDepth 10000
set_option linter.unusedVariables false
set_option linter.unusedSimpArgs false
namespace Go.Sl
open Go Go.Proofs
attribute [local irreducible] pt old pur ex all den denOps denS xOps xC cX CX xthen xblk xcut xloop xng retX resX Calls PV Rd Con
attribute [local irreducible] hostA pcl pgSealB pgOpenR PagerS.writeP PagerS.roomP
open PagerS (PS Over)
theorem spoilt_len {h : HostS.HS} (hk : HostS.Ok h) (n : Int) (l : List HostS.Fault) : (HostS.spoilt h n l).length = h.size := by
  unfold HostS.spoilt
  have : ∀ (l : List HostS.Fault) (b : HostS.Bytes), b.length = h.size → (l.foldl (HostS.spoil1 h n) b).length = h.size := by
    intro l
    induction l with
    | nil => intro b hb; exact hb
    | cons f r ih =>
      intro b hb
      rw [List.foldl_cons]
      refine ih _ ?_
      unfold HostS.spoil1
      split
      · split
        · simpa using hb
        · exact hb
      · split
        · exact back_len hk _ _
        · split
          · split
            · exact back_len hk _ _
            · exact hb
          · exact hb
  exact this l _ (back_len hk _ _)
theorem readR_len {h : HostS.HS} (hk : HostS.Ok h) {n : Int} (hz : (HostS.readR h n).2.1 = 0) : (HostS.readR h n).1.length = h.size := by
  unfold HostS.readR at hz ⊢
  split
  · rename_i ht
    rw [if_pos ht] at hz
    dsimp only at hz ⊢
    split
    · exact spoilt_len hk _ _
    · rename_i h0; rw [if_neg h0] at hz; exact absurd hz h0
  · rename_i ht
    rw [if_neg ht] at hz; cases hz
theorem readR_err2 (h : HostS.HS) (n : Int) : (HostS.readR h n).2.1 ≤ 1000 := by
  unfold HostS.readR
  split
  · dsimp only
    split
    · dsimp only; omega
    · dsimp only
      unfold HostS.does
      split
      · (dsimp only; omega)
      · dsimp only
        split
        · (dsimp only; omega)
        · split <;> (dsimp only; omega)
  · dsimp only; omega
section
variable {p ph : Nat} {s : PS} {h : HostS.HS}
theorem pg_small {F : FuncId} {args : List Value} {v : Value} (hc : ∀ c : PC, s.key.length = 32 → Con Tryz.prog F args [cl p (pcl s c) 102] (fun r M => r = v ∧ M = [cl p (pcl s c) 102])) : Con Tryz.prog F args [pgA p ph s] (fun r M => r = v ∧ M = [pgA p ph s]) :=
  Con.pgA (L := []) fun c l hk => ((hc c hk.ok.key).frame (L := [fmA c.bh (heldF l), fmA c.bl (lastF s.last), ownI c.oa c.oc (fpages l), star frA l])).mono fun r M ⟨M', ⟨h1, h2⟩, h3⟩ => by subst h2 h3; exact ⟨_, pgA_mk hk (L := []), h1, rfl⟩
theorem right_p (n : Int) : Con Tryz.prog 53 [hp p, .int .i64 n] [pgA p ph s] (fun r M => r = nvv (PagerS.rightP s n) ∧ M = [pgA p ph s]) := pg_small fun c hk => right_x hk n
theorem pages_p : Con Tryz.prog 51 [hp p] [pgA p ph s] (fun r M => r = .int .i64 s.pages ∧ M = [pgA p ph s]) := pg_small fun c hk => pPages_x hk
theorem text_p : Con Tryz.prog 52 [hp p] [pgA p ph s] (fun r M => r = nvv s.text ∧ M = [pgA p ph s]) := pg_small fun c hk => pText_x hk
theorem most_p : Con Tryz.prog 17 [hp p] [pgA p ph s] (fun r M => r = nvv s.most ∧ M = [pgA p ph s]) := pg_small fun c hk => pMost_x hk
theorem writes_p : Con Tryz.prog 21 [hp p] [pgA p ph s] (fun r M => r = u32b (BitVec.ofNat 32 s.writes) ∧ M = [pgA p ph s]) := pg_small fun c hk => pWrites_x hk
theorem err_p : Con Tryz.prog 18 [hp p] [pgA p ph s] (fun r M => r = nvv s.err ∧ M = [pgA p ph s]) := pg_small fun c hk => pErr_x hk
/-- What use leaves is a pager. -/
theorem pg_used {c : PC} {l : List FV} {L : List Asrt} (hk : PgOk ph s c l) (e : FV) (hr : (PagerS.frOf s e.1.page).isSome = true ∨ s.held.length < s.window) (hpp : 0 ≤ e.1.page ∧ e.1.page < s.pages) (hl : e.1.text.length = s.text) (hi : e.1.is ≤ 2) (oa : Option Addr) (oc : Nat) :
    Imp (cl p (pcl { s with most := max s.most (used (fpages l) e.1.page).length } { c with oa := oa, n := (used (fpages l) e.1.page).length, oc := oc }) 102 :: fmA c.bh (fput (heldF l) e.1.page (some (hp e.2.1))) :: fmA c.bl (lastF s.last) :: ownI oa oc (used (fpages l) e.1.page) :: star frA (othersF l e.1.page) :: frA e :: L) (pgA p ph (PagerS.useP s e.1) :: L) := by
  have hk' := pgok_use hk e hr hpp hl hi oa oc
  have hm := used_len hk e
  rw [hm, ← heldF_use l e.1.page e rfl, ← used_pages l e.1.page e rfl]
  rw [← used_pages l e.1.page e rfl] at hk'
  have h1 : Imp (frA e :: star frA (othersF l e.1.page) :: (cl p (pcl { s with most := (PagerS.useP s e.1).most } { c with oa := oa, n := (fpages (othersF l e.1.page ++ [e])).length, oc := oc }) 102 :: fmA c.bh (heldF (othersF l e.1.page ++ [e])) :: fmA c.bl (lastF s.last) :: ownI oa oc (fpages (othersF l e.1.page ++ [e])) :: L)) (star frA (othersF l e.1.page ++ [e]) :: (cl p (pcl { s with most := (PagerS.useP s e.1).most } { c with oa := oa, n := (fpages (othersF l e.1.page ++ [e])).length, oc := oc }) 102 :: fmA c.bh (heldF (othersF l e.1.page ++ [e])) :: fmA c.bl (lastF s.last) :: ownI oa oc (fpages (othersF l e.1.page ++ [e])) :: L)) := star_snoc
  have h2 : Imp (pgL p (PagerS.useP s e.1) { c with oa := oa, n := (fpages (othersF l e.1.page ++ [e])).length, oc := oc } (othersF l e.1.page ++ [e]) ++ L) (pgA p ph (PagerS.useP s e.1) :: L) := pgA_mk hk'
  have h3 : pcl { s with most := (PagerS.useP s e.1).most } { c with oa := oa, n := (fpages (othersF l e.1.page ++ [e])).length, oc := oc } = pcl (PagerS.useP s e.1) { c with oa := oa, n := (fpages (othersF l e.1.page ++ [e])).length, oc := oc } := by with_unfolding_all rfl
  rw [h3] at h1 ⊢
  exact ((Imp.arr qV).trans h1).trans ((Imp.arr qV).trans h2)
theorem frA_mk {e : FV} {L : List Asrt} : Imp (cl e.2.1 #[.slice e.2.2.1 e.1.text.length e.2.2.2, nvv e.1.is] 106 :: ownB e.2.2.1 e.2.2.2 e.1.text :: L) (frA e :: L) := Imp.app (L := [cl e.2.1 #[.slice e.2.2.1 e.1.text.length e.2.2.2, nvv e.1.is] 106, ownB e.2.2.1 e.2.2.2 e.1.text])
theorem frA_open {e : FV} {L : List Asrt} : Imp (frA e :: L) (cl e.2.1 #[.slice e.2.2.1 e.1.text.length e.2.2.2, nvv e.1.is] 106 :: ownB e.2.2.1 e.2.2.2 e.1.text :: L) := Imp.unapp (L := [cl e.2.1 #[.slice e.2.2.1 e.1.text.length e.2.2.2, nvv e.1.is] 106, ownB e.2.2.1 e.2.2.2 e.1.text])
theorem held_lt {c : PC} {l : List FV} (hk : PgOk ph s c l) {n : Int} (hn : n ∈ fpages l) : ∃ i, ∃ hi : i < l.length, l[i].1.page = n := by
  obtain ⟨i, hi, e⟩ := List.mem_iff_getElem.1 hn
  have hi' : i < l.length := by simpa [fpages] using hi
  exact ⟨i, hi', by rw [← e]; simp [fpages]⟩
theorem numbers_f {c : PC} {l : List FV} (hk : PgOk ph s c l) : PagerS.numbers s = fpages l := by
  unfold PagerS.numbers
  rw [hk.held, List.map_map]; rfl
end
end Go.Sl

/- pager: Load, walked. -/
set_option maxHeartbeats 4000000
set_option maxRecDepth 10000
set_option linter.unusedVariables false
set_option linter.unusedSimpArgs false
namespace Go.Sl
open Go Go.Proofs
attribute [local irreducible] pt old pur ex all den denOps denS xOps xC cX CX xthen xblk xcut xloop xng retX resX Calls PV Rd Con
attribute [local irreducible] hostA pcl pgSealB pgOpenR PagerS.writeP PagerS.roomP HostS.readR
open PagerS (PS Over)
section
variable {p ph : Nat} {s : PS} {h : HostS.HS}
theorem load_x (hov : Over s h) (hops : h.ops + 1 < 3518437208880) (n : Int) :
    Con Tryz.prog 14 [hp p, .int .i64 n] [pgA p ph s, hostA ph h] (fun r M => ∃ a c, r = .tuple #[.slice a (PagerS.loadP s h n).1.1.length c, nvv (PagerS.loadP s h n).1.2] ∧ M = [ownB a c (PagerS.loadP s h n).1.1, pgA p ph (PagerS.loadP s h n).2.1, hostA ph (PagerS.loadP s h n).2.2]) := by
  by_cases hr : PagerS.rightP s n = 0
  · obtain ⟨hr0, hr1⟩ : s.err = 0 ∧ 0 ≤ n ∧ n < s.pages := by
      unfold PagerS.rightP at hr
      split at hr
      · rename_i he; exact absurd hr he
      · rename_i he
        split at hr
        · cases hr
        · rename_i hpp; exact ⟨by omega, by omega, by omega⟩
    refine Con.pgA fun c l hk => ?_
    refine Con.pre ?_ (pgA_mk hk)
    by_cases hin : n ∈ fpages l
    · obtain ⟨i, hi, rfl⟩ := held_lt hk hin
      have e : PagerS.loadP s h l[i].1.page = ((l[i].1.text, 0), PagerS.useP s l[i].1, h) := by
        unfold PagerS.loadP
        rw [if_pos hr, hk.fr hi]
      rw [e]
      refine fn_x Tryz.func14 rfl rfl rfl Tryz.mixed (by kernel_rfl) ?_
      intro w0
      refine Y7 ?_
      refine Zh8 rfl (by kernel_rfl) (right_p l[i].1.page) rfl qT ?_
      rintro _ _ ⟨rfl, rfl⟩
      refine Y6 ?_
      refine Zhn 17 rfl (decide_eq_false (fun hh => hh hr)) ?_
      refine V2 ?_
      refine x_pgA fun c l' hk' => ?_
      simp only [List.cons_append, List.nil_append]
      obtain ⟨j, hj, ej⟩ := held_lt hk' (n := l[i].1.page) (by rw [← numbers_f hk', numbers_f hk]; exact hin)
      have hfr : l'[j].1 = l[i].1 := by
        have e1 := hk'.fr hj
        rw [ej, hk.fr hi] at e1
        exact (Option.some.inj e1).symm
      rw [← hfr]
      have htl : l'[j].1.text.length = s.text := hk'.ok.len _ (by rw [hk'.held]; exact List.mem_map.2 ⟨l'[j], List.getElem_mem hj, rfl⟩)
      have his : l'[j].1.is ≤ 2 := hk'.ok.is _ (by rw [hk'.held]; exact List.mem_map.2 ⟨l'[j], List.getElem_mem hj, rfl⟩)
      have hr2 := hr1
      rw [← ej] at hr2 hr
      have hat := others_at hk'.nodup hj
      have hkey := hk'.ok.key
      refine Y4 ?_
      refine Zhp rfl qH (pg_f hkey (k := 4) rfl) ?_
      refine Y1 ?_
      refine Zoc rfl rfl qH (v := hp l'[j].2.1) (by rw [heldF_at hk'.nodup hj]; rfl) ?_
      refine Y5 ?_
      refine Zhn 26 rfl (rfl) ?_
      refine Y6 ?_
      refine Zh8 rfl (by kernel_rfl) (use_x hk'.ok.key (zs := fpages l') (by rw [show (fpages l').length = l'.length by simp [fpages]]; exact hk'.len) hk'.nodup (F := heldF l') l'[j].1.page (l'[j].2.1) (by have := hk'.ok.most; have := hk'.ok.w1; omega) hk'.n) rfl qT ?_
      rintro _ _ ⟨oa', oc', rfl⟩
      refine V2 ?_
      refine Zgp (((Imp.arr (N := star frA l' :: cl p (pcl { s with most := max s.most (used (fpages l') l'[j].1.page).length } { c with oa := oa', n := (used (fpages l') l'[j].1.page).length, oc := oc' }) 102 :: fmA c.bh (fput (heldF l') l'[j].1.page (some (hp l'[j].2.1))) :: fmA c.bl (lastF s.last) :: ownI oa' oc' (used (fpages l') l'[j].1.page) :: [hostA ph h]) qV).trans (star_at hj)).trans frA_open) ?_
      refine Y5 ?_
      refine Zh8 rfl (by kernel_rfl) (cloneB_x (L := [ownB (l'[j].2.2.1) (l'[j].2.2.2) l'[j].1.text]) (Rd.own .here) (by have := hk'.ok.t1; omega)) rfl qT ?_
      rintro _ _ ⟨a', c', rfl, rfl⟩
      refine V4 ?_
      refine rx2 (Zhc rfl (Zg9 rfl (Zg7))) ?_
      have hpk := pg_used (p := p) (L := [hostA ph h]) hk' l'[j] (.inl (by rw [hk'.fr hj]; rfl)) hr2 htl his oa' oc'
      rw [hat] at hpk
      refine ⟨_, ⟨a', c', rfl, rfl⟩, ?_⟩
      exact (Imp.arr (N := ownB a' c' l'[j].1.text :: cl l'[j].2.1 #[.slice l'[j].2.2.1 l'[j].1.text.length l'[j].2.2.2, nvv l'[j].1.is] 106 :: ownB l'[j].2.2.1 l'[j].2.2.2 l'[j].1.text :: star frA (l'.eraseIdx j) :: cl p (pcl { s with most := max s.most (used (fpages l') l'[j].1.page).length } { c with oa := oa', n := (used (fpages l') l'[j].1.page).length, oc := oc' }) 102 :: fmA c.bh (fput (heldF l') l'[j].1.page (some (hp l'[j].2.1))) :: fmA c.bl (lastF s.last) :: ownI oa' oc' (used (fpages l') l'[j].1.page) :: [hostA ph h]) qV).trans (Imp.cons ((frA_mk.trans (Imp.arr qV)).trans hpk))
    · have hno := hk.none hin
      have hnn : n ∉ PagerS.numbers s := by rw [numbers_f hk]; exact hin
      obtain ⟨ro1, ro2⟩ := roomP_over hov
      obtain ⟨rs1, rs2, rs3, rs4, rs5, rs6⟩ := roomP_same (h := h) hk.ok
      have hops1 : (PagerS.roomP s h).2.2.ops < 3518437208880 := by omega
      refine fn_x Tryz.func14 rfl rfl rfl Tryz.mixed (by kernel_rfl) ?_
      intro w0
      refine Y7 ?_
      refine Zh8 rfl (by kernel_rfl) (right_p n) rfl qT ?_
      rintro _ _ ⟨rfl, rfl⟩
      refine Y6 ?_
      refine Zhn 17 rfl (decide_eq_false (fun hh => hh hr)) ?_
      refine V2 ?_
      refine x_pgA fun c l hk => ?_
      simp only [List.cons_append, List.nil_append]
      have hin : n ∉ fpages l := by rw [← numbers_f hk]; exact hnn
      have hkey := hk.ok.key
      refine Y4 ?_
      refine Zhp rfl qH (pg_f hkey (k := 4) rfl) ?_
      refine Y1 ?_
      refine Zoc rfl rfl qH (v := .pointer none) (by rw [heldF_no hin]; rfl) ?_
      refine Y5 ?_
      refine Zhm 26 rfl (rfl) ?_
      refine V2 ?_
      refine Zgp ((Imp.arr (N := pgL p s c l ++ [hostA ph h]) qV).trans (pgA_mk hk)) ?_
      refine Y2 ?_
      refine Zh8 rfl (by kernel_rfl) (room_x hov (by omega)) rfl qT ?_
      rintro _ _ ⟨rfl, rfl⟩
      refine V3 ?_
      by_cases hz : (PagerS.roomP s h).1 = 0
      · refine Y3 ?_
        refine Zhn 30 rfl (decide_eq_false (fun hh => hh hz)) ?_
        refine V2 ?_
        have e : PagerS.loadP s h n = PagerS.fetchP (PagerS.roomP s h).2.1 (PagerS.roomP s h).2.2 n := by
          unfold PagerS.loadP
          rw [if_pos hr, hno]
          dsimp only
          rw [if_pos hz]
        rw [e]
        have hroom := rs6 hz
        rw [← rs1] at hroom
        have hnn1 := rs5 n hnn
        rw [← rs2] at hr1
        generalize (PagerS.roomP s h).2.1 = s1 at *
        generalize (PagerS.roomP s h).2.2 = h1 at *
        refine Y1 ?_
        refine Zhg (Zdm (cs := #[.slice none 0 0, .int .i64 0]) (by kernel_rfl)) ?_
        refine Zh5 rfl ?_; intro b33
        refine V2 ?_
        refine Zgp (Imp.arr (N := pgA p ph s1 :: cl b33 #[.slice none 0 0, nvv 0] 106 :: [hostA ph h1]) qV) ?_
        refine x_pgA fun c l hk => ?_
        simp only [List.cons_append, List.nil_append]
        have hin : n ∉ fpages l := by rw [← numbers_f hk]; exact hnn1
        have hkey := hk.ok.key
        have hoth := others_no hin
        obtain rfl := hk.ph
        cases hl : s1.last n with
        | none =>
          have e : PagerS.fetchP s1 h1 n = ((List.replicate s1.text 0#8, 0), PagerS.useP s1 ⟨n, List.replicate s1.text 0#8, 0⟩, h1) := by unfold PagerS.fetchP; rw [hl]
          rw [e]
          refine Y4 ?_
          refine Zhp rfl qH (pg_f hkey (k := 6) rfl) ?_
          refine Y1 ?_
          refine Zoe rfl rfl qH (v := .agg (plc plc0)) (t := false) (by unfold lastF; rw [hl]; rfl) (by unfold lastF; rw [hl]; rfl) ?_
          refine Y3 ?_
          refine Zhz (cs := #[u64b 0#64, u32b 0#32, u32b 0#32, u32b 0#32]) rfl ?_; intro b9
          first|refine Zhy rfl rfl qR qZ qN qZ ?_|refine Zhx rfl rfl qR qZ qN qZ rfl ?_
          refine V6 ?_
          have htx0 := hk.ok.t0
          have htx1 := hk.ok.t1
          refine Y5 ?_
          refine Zhp rfl qH (pg_f hkey (k := 3) rfl) ?_
          refine Zm3 (f := u8b) (a := 0#8) rfl rfl rfl qS qS qS ?_; intro b81
          refine V4 ?_
          have hrl : (List.replicate s1.text 0#8).length = s1.text := List.length_replicate ..
          refine Zgp ((Imp.arr (N := cl b81 ((List.replicate s1.text 0#8).map u8b).toArray 5 :: cl b33 #[.slice (some ⟨b81, 0, none⟩) s1.text s1.text, nvv 0] 106 :: pgL p s1 c l ++ [hostA c.ph h1]) qV).trans (Imp.own_mk (E := 5) (size := 1) (n := (List.replicate s1.text 0#8).length) (cap := s1.text) (xs := (List.replicate s1.text 0#8).map u8b) (by simp) (by omega) (by simp) (by simp))) ?_
          simp only [List.cons_append, List.nil_append]
          have hcl : cl b33 #[.slice (some ⟨b81, 0, none⟩) s1.text s1.text, nvv 0] 106 = cl b33 #[.slice (some ⟨b81, 0, none⟩) (List.replicate s1.text 0#8).length s1.text, nvv 0] 106 := by rw [hrl]
          rw [hcl]
          refine Y4 ?_
          refine Zh8 rfl (by kernel_rfl) (use_x hk.ok.key (zs := fpages l) (by rw [show (fpages l).length = l.length by simp [fpages]]; exact hk.len) hk.nodup (F := heldF l) n (b33) (by have := hk.ok.most; have := hk.ok.w1; omega) hk.n) rfl qT ?_
          rintro _ _ ⟨oa', oc', rfl⟩
          refine Y7 ?_
          refine Zh8 rfl (by kernel_rfl) (cloneB_x (L := [ownB (some ⟨b81, 0, none⟩) (s1.text) (List.replicate s1.text 0#8)]) (Rd.own .here) (by have := hk.ok.t1; omega)) rfl qT ?_
          rintro _ _ ⟨a', c', rfl, rfl⟩
          refine V4 ?_
          refine rx2 (Zhc rfl (Zg9 rfl (Zg7))) ?_
          have hpk := pg_used (p := p) (L := [hostA c.ph h1]) hk ((⟨n, List.replicate s1.text 0#8, 0⟩, b33, some ⟨b81, 0, none⟩, s1.text) : FV) (.inr hroom) hr1 (by simp) (by dsimp only; omega) oa' oc'
          dsimp only at hpk
          rw [hoth] at hpk
          refine ⟨_, ⟨a', c', rfl, rfl⟩, ?_⟩
          exact (Imp.arr (N := ownB a' c' (List.replicate s1.text 0#8) :: cl b33 #[.slice (some ⟨b81, 0, none⟩) (List.replicate s1.text 0#8).length (s1.text), nvv 0] 106 :: ownB (some ⟨b81, 0, none⟩) (s1.text) (List.replicate s1.text 0#8) :: star frA l :: cl p (pcl { s1 with most := max s1.most (used (fpages l) n).length } { c with oa := oa', n := (used (fpages l) n).length, oc := oc' }) 102 :: fmA c.bh (fput (heldF l) n (some (hp b33))) :: fmA c.bl (lastF s1.last) :: ownI oa' oc' (used (fpages l) n) :: [hostA c.ph h1]) qV).trans (Imp.cons ((((frA_mk (e := ((⟨n, List.replicate s1.text 0#8, 0⟩, b33, some ⟨b81, 0, none⟩, s1.text) : FV))).trans (Imp.arr qV))).trans hpk))
        | some pl =>
          refine Y4 ?_
          refine Zhp rfl qH (pg_f hkey (k := 6) rfl) ?_
          refine Y1 ?_
          refine Zoe rfl rfl qH (v := .agg (plc pl)) (t := true) (by unfold lastF; rw [hl]; rfl) (by unfold lastF; rw [hl]; rfl) ?_
          refine Y3 ?_
          refine Zhz (cs := #[u64b 0#64, u32b 0#32, u32b 0#32, u32b 0#32]) rfl ?_; intro b9
          first|refine Zhy rfl rfl qR qZ qN qZ ?_|refine Zhx rfl rfl qR qZ qN qZ rfl ?_
          refine V6 ?_
          refine Zgt (fun F w H => host_ok qH H) ?_
          intro hho
          have herr := readR_err2 h1 n
          refine Y4 ?_
          refine Zhp rfl qH (pg_st) ?_
          refine Y1 ?_
          refine Znt rfl (met_read c.ph) (by kernel_rfl) (read_x (p := c.ph) n hops1) rfl qT ?_
          rintro _ _ ⟨xa, xc, rfl, rfl⟩
          refine V7 ?_
          by_cases h0 : (HostS.readR h1 n).2.1 = 0
          · have hbl := readR_len hho h0
            have hsz := ro1.size
            have hpz := pg_size (c := c) hkey
            have htx1 := hk.ok.t1
            have hop := fun xa xc => pgOpen_x (L := [ownB xa xc (HostS.readR h1 n).1]) s1.key hkey pl (Bs.own .here) (by omega)
            refine Y3 ?_
            refine Zhm 54 rfl (decide_eq_true (h0)) ?_
            refine V2 ?_
            refine Zij ([cl p (pcl s1 c) 102, cl b9 (plc pl) 108, cl b33 #[.slice none 0 0, nvv 0] 106]) [5] (.q 0 (.q 1 (.q 2 (.q 3 (.q 6 (.r 4 (.r 5 (.e 7 false (.q 8 (.q 9 (.q 10 (.q 11 (.q 12 (.e 13 false (.q 14 .nil))))))))))))))) (by kernel_rfl) (by kernel_rfl) (Imp.arr qV) ?_
            refine W5 ?_
            refine Zix (n := 32) rfl rfl qH qZ (pg_key hkey) ?_
            refine W1 ?_
            refine Ziq rfl ?_
            refine Zh8 rfl (by kernel_rfl) (hop xa xc) rfl qT ?_
            rintro _ _ ⟨ya, yc, rfl, rfl⟩
            refine Y1 ?_
            refine Zg3 ⟨(fun hh => Bool.noConfusion hh), ?_⟩
            refine W5 ?_
            refine Ziq rfl ?_
            refine Y1 ?_
            refine Zg3 ⟨(fun hh => Bool.noConfusion hh), ?_⟩
            refine W2 ?_
            refine Ct.o ?_
            by_cases h2 : (pgOpenR s1.key pl (HostS.readR h1 n).1).2 = 0
            · have e : PagerS.fetchP s1 h1 n = (((pgOpenR s1.key pl (HostS.readR h1 n).1).1, 0), PagerS.useP s1 ⟨n, (pgOpenR s1.key pl (HostS.readR h1 n).1).1, 1⟩, (HostS.readR h1 n).2.2) := by
                unfold PagerS.fetchP
                rw [hl]
                dsimp only
                rw [if_pos h0, if_pos h2]
              rw [e]
              refine Y3 ?_
              refine Zhn 69 rfl (decide_eq_false (fun hh => hh h2)) ?_
              refine V8 ?_
              have hot : (pgOpenR s1.key pl (HostS.readR h1 n).1).1.length = s1.text := by
                have := pg_form s1.key pl (HostS.readR h1 n).1 (by
                  by_cases hh : pgOpens s1.key pl (HostS.readR h1 n).1
                  · exact hh
                  · rw [pgOpenR_not _ _ _ hh] at h2; cases h2)
                omega
              refine Y4 ?_
              refine Zh8 rfl (by kernel_rfl) (use_x hk.ok.key (zs := fpages l) (by rw [show (fpages l).length = l.length by simp [fpages]]; exact hk.len) hk.nodup (F := heldF l) n (b33) (by have := hk.ok.most; have := hk.ok.w1; omega) hk.n) rfl qT ?_
              rintro _ _ ⟨oa', oc', rfl⟩
              refine Y7 ?_
              refine Zh8 rfl (by kernel_rfl) (cloneB_x (L := [ownB (ya) (yc) ((pgOpenR s1.key pl (HostS.readR h1 n).1).1)]) (Rd.own .here) (by have := hk.ok.t1; omega)) rfl qT ?_
              rintro _ _ ⟨a', c', rfl, rfl⟩
              refine V4 ?_
              refine rx2 (Zhc rfl (Zg9 rfl (Zg7))) ?_
              have hpk := pg_used (p := p) (L := [hostA c.ph (HostS.readR h1 n).2.2]) hk ((⟨n, (pgOpenR s1.key pl (HostS.readR h1 n).1).1, 1⟩, b33, ya, yc) : FV) (.inr hroom) hr1 hot (by dsimp only; omega) oa' oc'
              dsimp only at hpk
              rw [hoth] at hpk
              refine ⟨_, ⟨a', c', rfl, rfl⟩, ?_⟩
              exact (Imp.arr (N := ownB a' c' ((pgOpenR s1.key pl (HostS.readR h1 n).1).1) :: cl b33 #[.slice (ya) ((pgOpenR s1.key pl (HostS.readR h1 n).1).1).length (yc), nvv 1] 106 :: ownB (ya) (yc) ((pgOpenR s1.key pl (HostS.readR h1 n).1).1) :: star frA l :: cl p (pcl { s1 with most := max s1.most (used (fpages l) n).length } { c with oa := oa', n := (used (fpages l) n).length, oc := oc' }) 102 :: fmA c.bh (fput (heldF l) n (some (hp b33))) :: fmA c.bl (lastF s1.last) :: ownI oa' oc' (used (fpages l) n) :: [hostA c.ph (HostS.readR h1 n).2.2]) qV).trans (Imp.cons ((((frA_mk (e := ((⟨n, (pgOpenR s1.key pl (HostS.readR h1 n).1).1, 1⟩, b33, ya, yc) : FV))).trans (Imp.arr qV))).trans hpk))
            · have e : PagerS.fetchP s1 h1 n = (([], (pgOpenR s1.key pl (HostS.readR h1 n).1).2), PagerS.die s1 (pgOpenR s1.key pl (HostS.readR h1 n).1).2, (HostS.readR h1 n).2.2) := by
                unfold PagerS.fetchP
                rw [hl]
                dsimp only
                rw [if_pos h0, if_neg h2]
              rw [e]
              have hbig : (pgOpenR s1.key pl (HostS.readR h1 n).1).2 ≤ 1000 := by
                with_unfolding_all unfold pgOpenR
                split <;> simp
              refine Y3 ?_
              refine Zhm 69 rfl (decide_eq_true (h2)) ?_
              refine Y5 ?_
              refine Zh8 rfl (by kernel_rfl) (die_x hkey (pgOpenR s1.key pl (HostS.readR h1 n).1).2) rfl qT ?_
              rintro _ _ ⟨rfl, rfl⟩
              refine V4 ?_
              refine rx2 (Zhc rfl (Zg9 rfl (Zg7))) ?_
              have hkd : PgOk c.ph (PagerS.die s1 (pgOpenR s1.key pl (HostS.readR h1 n).1).2) c l := ⟨PagerS.ok_die hk.ok _ hbig, rfl, hk.held, hk.n⟩
              exact ⟨_, ⟨none, 0, rfl, rfl⟩, ((Imp.arr (N := pgL p (PagerS.die s1 (pgOpenR s1.key pl (HostS.readR h1 n).1).2) c l ++ [hostA c.ph (HostS.readR h1 n).2.2]) qV).trans (pgA_mk hkd)).trans Imp.own_nil⟩
          · have e : PagerS.fetchP s1 h1 n = (([], (HostS.readR h1 n).2.1), PagerS.die s1 (HostS.readR h1 n).2.1, (HostS.readR h1 n).2.2) := by
              unfold PagerS.fetchP
              rw [hl]
              dsimp only
              rw [if_neg h0]
            rw [e]
            refine Y3 ?_
            refine Zhn 54 rfl (decide_eq_false (h0)) ?_
            refine Y5 ?_
            refine Zhm 69 rfl (decide_eq_true (h0)) ?_
            refine Y5 ?_
            refine Zh8 rfl (by kernel_rfl) (die_x hkey (HostS.readR h1 n).2.1) rfl qT ?_
            rintro _ _ ⟨rfl, rfl⟩
            refine V4 ?_
            refine rx2 (Zhc rfl (Zg9 rfl (Zg7))) ?_
            have hkd : PgOk c.ph (PagerS.die s1 (HostS.readR h1 n).2.1) c l := ⟨PagerS.ok_die hk.ok _ herr, rfl, hk.held, hk.n⟩
            exact ⟨_, ⟨none, 0, rfl, rfl⟩, ((Imp.arr (N := pgL p (PagerS.die s1 (HostS.readR h1 n).2.1) c l ++ [hostA c.ph (HostS.readR h1 n).2.2]) qV).trans (pgA_mk hkd)).trans Imp.own_nil⟩
      · have e : PagerS.loadP s h n = (([], (PagerS.roomP s h).1), (PagerS.roomP s h).2) := by
          unfold PagerS.loadP
          rw [if_pos hr, hno]
          dsimp only
          rw [if_neg hz]
        rw [e]
        refine Y3 ?_
        refine Zhm 30 rfl (decide_eq_true (hz)) ?_
        refine V7 ?_
        refine rx2 (Zhc rfl (Zg9 rfl (Zg7))) ?_
        exact ⟨_, ⟨none, 0, rfl, rfl⟩, (Imp.arr (N := [pgA p ph (PagerS.roomP s h).2.1, hostA ph (PagerS.roomP s h).2.2]) qV).trans Imp.own_nil⟩
  · have e : PagerS.loadP s h n = (([], PagerS.rightP s n), s, h) := by unfold PagerS.loadP; rw [if_neg hr]
    rw [e]
    refine fn_x Tryz.func14 rfl rfl rfl Tryz.mixed (by kernel_rfl) ?_
    intro w0
    refine Y7 ?_
    refine Zh8 rfl (by kernel_rfl) (right_p n) rfl qT ?_
    rintro _ _ ⟨rfl, rfl⟩
    refine Y6 ?_
    refine Zhm 17 rfl (decide_eq_true (hr)) ?_
    refine V7 ?_
    refine rx2 (Zhc rfl (Zg9 rfl (Zg7))) ?_
    exact ⟨_, ⟨none, 0, rfl, rfl⟩, (Imp.arr (N := [pgA p ph s, hostA ph h]) qV).trans Imp.own_nil⟩
end
end Go.Sl

/- pager: Save, Flush, Held, walked. -/
set_option maxHeartbeats 4000000
set_option maxRecDepth 10000
set_option linter.unusedVariables false
set_option linter.unusedSimpArgs false
namespace Go.Sl
open Go Go.Proofs
attribute [local irreducible] pt old pur ex all den denOps denS xOps xC cX CX xthen xblk xcut xloop xng retX resX Calls PV Rd Con
attribute [local irreducible] hostA pcl pgSealB pgOpenR PagerS.writeP PagerS.roomP HostS.readR
open PagerS (PS Over)
section
variable {p ph : Nat} {s : PS} {h : HostS.HS} {L : List Asrt}
theorem rightP_zero {n : Int} (hr : PagerS.rightP s n = 0) : s.err = 0 ∧ 0 ≤ n ∧ n < s.pages := by
  unfold PagerS.rightP at hr
  split at hr
  · rename_i he; exact absurd hr he
  · rename_i he
    split at hr
    · cases hr
    · rename_i hpp; exact ⟨by omega, by omega, by omega⟩
theorem held_x : Con Tryz.prog 16 [hp p] [pgA p ph s] (fun r M => ∃ a c, r = .slice a (PagerS.numbers s).length c ∧ M = [ownI a c (PagerS.numbers s), pgA p ph s]) := by
  refine Con.pgA fun c l hk => ?_
  simp only [List.cons_append, List.nil_append, List.append_nil]
  have hl16 := hk.len
  have hkey := hk.ok.key
  have hn := hk.n
  have hcl := clone_x (L := [ownI c.oa c.oc (fpages l)]) (a := c.oa) (c := c.oc) (zs := fpages l) (Rd.own .here) (by simp [fpages]; omega)
  rw [← hn] at hcl
  rw [numbers_f hk]
  refine fn_x Tryz.func16 rfl rfl rfl Tryz.mixed (by kernel_rfl) ?_
  intro w0
  refine Y6 ?_
  refine Zhn 4 rfl (rfl) ?_
  refine Y6 ?_
  refine Zhp rfl qH (pg_f hkey (k := 5) rfl) ?_
  refine Zh8 rfl (by kernel_rfl) (hcl) rfl qT ?_
  rintro _ _ ⟨a', c', rfl, rfl⟩
  refine V3 ?_
  refine rx1 (Zhc rfl (Zg7)) ?_
  exact ⟨_, ⟨a', c', by rw [hn], rfl⟩, (Imp.arr (N := ownI a' c' (fpages l) :: pgL p s c l ++ []) qV).trans (Imp.cons (pgA_mk hk))⟩
theorem save_x (hov : Over s h) (hops : h.ops + 1 < 3518437208880) (n : Int) {tv : Value} {t : List Byte} (ht : Bs L tv t) :
    Con Tryz.prog 12 [hp p, .int .i64 n, tv] (pgA p ph s :: hostA ph h :: L) (fun r M => r = nvv (PagerS.saveP s h n t).1 ∧ M = pgA p ph (PagerS.saveP s h n t).2.1 :: hostA ph (PagerS.saveP s h n t).2.2 :: L) := by
  refine Con.get (fun w0 w F H => ht.sh _ _ _ (H.enx (Imp.tail.trans Imp.tail))) ?_
  rintro ⟨ta, tc, rfl, htc, htcm⟩
  by_cases hr : PagerS.rightP s n = 0
  · obtain ⟨hr0, hr1⟩ := rightP_zero hr
    refine Con.pgA fun c l hk => ?_
    refine Con.pre ?_ (pgA_mk hk)
    have ht1 := hk.ok.t1
    by_cases htl : t.length = s.text
    · by_cases hin : n ∈ fpages l
      · obtain ⟨i, hi, rfl⟩ := held_lt hk hin
        have e : PagerS.saveP s h l[i].1.page t = (0, PagerS.useP s ⟨l[i].1.page, t, 2⟩, h) := by
          unfold PagerS.saveP
          rw [if_pos hr, if_pos htl, hk.fr hi]
        rw [e]
        refine fn_x Tryz.func12 rfl rfl rfl Tryz.mixed (by kernel_rfl) ?_
        intro w0
        refine Y6 ?_
        refine Zh8 rfl (by kernel_rfl) (right_p l[i].1.page) rfl qT ?_
        rintro _ _ ⟨rfl, rfl⟩
        refine Y6 ?_
        refine Zhn 13 rfl (decide_eq_false (fun hh => hh hr)) ?_
        refine V2 ?_
        refine x_pgA fun c l' hk' => ?_
        simp only [List.cons_append, List.nil_append]
        obtain ⟨j, hj, ej⟩ := held_lt hk' (n := l[i].1.page) (by rw [← numbers_f hk', numbers_f hk]; exact hin)
        rw [← ej] at hr1 hr
        rw [← ej]
        have hkey := hk'.ok.key
        refine Y6 ?_
        refine Zhp rfl qH (pg_f hkey (k := 3) rfl) ?_
        refine Y1 ?_
        refine Zhn 21 rfl (decide_eq_false (fun hh => hh htl)) ?_
        refine Y6 ?_
        refine Zhp rfl qH (pg_f hkey (k := 4) rfl) ?_
        refine Y1 ?_
        refine Zoc rfl rfl qH (v := hp l'[j].2.1) (by rw [heldF_at hk'.nodup hj]; rfl) ?_
        refine Y1 ?_
        refine Zhn 28 rfl (rfl) ?_
        refine Y6 ?_
        refine Zh8 rfl (by kernel_rfl) (cloneB_x (L := L) ht.rd (by omega)) rfl qT ?_
        rintro _ _ ⟨xa, xc, rfl, rfl⟩
        refine Y1 ?_
        refine Zhg (Zdm (cs := #[.slice _ _ _, .int .i64 2]) rfl) ?_
        refine Zh5 rfl ?_; intro b39
        refine Zh8 rfl (by kernel_rfl) (use_x hk'.ok.key (zs := fpages l') (by rw [show (fpages l').length = l'.length by simp [fpages]]; exact hk'.len) hk'.nodup (F := heldF l') (l'[j].1.page) b39 (by have := hk'.ok.most; have := hk'.ok.w1; omega) hk'.n) rfl qT ?_
        rintro _ _ ⟨oa', oc', rfl⟩
        refine V5 ?_
        refine rx1 (Zg9 rfl (Zg7)) ?_
        have hat := others_at hk'.nodup hj
        have hpk := pg_used (p := p) (L := hostA ph h :: L) hk' ((⟨l'[j].1.page, t, 2⟩, b39, xa, xc) : FV) (.inl (by dsimp only; rw [hk'.fr hj]; rfl)) hr1 htl (by dsimp only; omega) oa' oc'
        dsimp only at hpk
        rw [hat] at hpk
        refine ⟨_, ⟨rfl, rfl⟩, ?_⟩
        exact ((Imp.arr (N := star frA l' :: cl b39 #[.slice xa t.length xc, nvv 2] 106 :: ownB xa xc t :: cl p (pcl { s with most := max s.most (used (fpages l') l'[j].1.page).length } { c with oa := oa', n := (used (fpages l') l'[j].1.page).length, oc := oc' }) 102 :: fmA c.bh (fput (heldF l') l'[j].1.page (some (hp b39))) :: fmA c.bl (lastF s.last) :: ownI oa' oc' (used (fpages l') l'[j].1.page) :: hostA ph h :: L) qV).trans ((star_at hj).trans Imp.tail)).trans (((Imp.arr (N := cl b39 #[.slice xa t.length xc, nvv 2] 106 :: ownB xa xc t :: star frA (l'.eraseIdx j) :: cl p (pcl { s with most := max s.most (used (fpages l') l'[j].1.page).length } { c with oa := oa', n := (used (fpages l') l'[j].1.page).length, oc := oc' }) 102 :: fmA c.bh (fput (heldF l') l'[j].1.page (some (hp b39))) :: fmA c.bl (lastF s.last) :: ownI oa' oc' (used (fpages l') l'[j].1.page) :: hostA ph h :: L) qV).trans (frA_mk (e := ((⟨l'[j].1.page, t, 2⟩, b39, xa, xc) : FV)))).trans ((Imp.arr qV).trans hpk))
      · have hno := hk.none hin
        have hnn : n ∉ PagerS.numbers s := by rw [numbers_f hk]; exact hin
        obtain ⟨ro1, ro2⟩ := roomP_over hov
        obtain ⟨rs1, rs2, rs3, rs4, rs5, rs6⟩ := roomP_same (h := h) hk.ok
        refine fn_x Tryz.func12 rfl rfl rfl Tryz.mixed (by kernel_rfl) ?_
        intro w0
        refine Y6 ?_
        refine Zh8 rfl (by kernel_rfl) (right_p n) rfl qT ?_
        rintro _ _ ⟨rfl, rfl⟩
        refine Y6 ?_
        refine Zhn 13 rfl (decide_eq_false (fun hh => hh hr)) ?_
        refine V2 ?_
        refine x_pgA fun c l hk => ?_
        simp only [List.cons_append, List.nil_append]
        have hin : n ∉ fpages l := by rw [← numbers_f hk]; exact hnn
        have hkey := hk.ok.key
        refine Y6 ?_
        refine Zhp rfl qH (pg_f hkey (k := 3) rfl) ?_
        refine Y1 ?_
        refine Zhn 21 rfl (decide_eq_false (fun hh => hh htl)) ?_
        refine Y6 ?_
        refine Zhp rfl qH (pg_f hkey (k := 4) rfl) ?_
        refine Y1 ?_
        refine Zoc rfl rfl qH (v := .pointer none) (by rw [heldF_no hin]; rfl) ?_
        refine Y1 ?_
        refine Zhm 28 rfl (rfl) ?_
        refine V2 ?_
        refine Zgp ((Imp.arr (N := pgL p s c l ++ (hostA ph h :: L)) qV).trans (pgA_mk hk)) ?_
        refine Y2 ?_
        refine Zh8 rfl (by kernel_rfl) (room_x hov (by omega)) rfl qT ?_
        rintro _ _ ⟨rfl, rfl⟩
        refine V3 ?_
        by_cases hz : (PagerS.roomP s h).1 = 0
        · have e : PagerS.saveP s h n t = (0, PagerS.useP (PagerS.roomP s h).2.1 ⟨n, t, 2⟩, (PagerS.roomP s h).2.2) := by
            unfold PagerS.saveP
            rw [if_pos hr, if_pos htl, hno]
            dsimp only
            rw [if_pos hz]
          rw [e]
          refine Y3 ?_
          refine Zhn 32 rfl (decide_eq_false (fun hh => hh hz)) ?_
          refine V2 ?_
          have hroom := rs6 hz
          rw [← rs1] at hroom
          have hnn1 := rs5 n hnn
          rw [← rs2] at hr1
          have htl1 : t.length = (PagerS.roomP s h).2.1.text := htl.trans rs3.symm
          generalize (PagerS.roomP s h).2.1 = s1 at *
          generalize (PagerS.roomP s h).2.2 = h1 at *
          refine Zgp (Imp.arr (N := pgA p ph s1 :: hostA ph h1 :: L) qV) ?_
          refine x_pgA fun c l' hk' => ?_
          simp only [List.cons_append, List.nil_append]
          have hin : n ∉ fpages l' := by rw [← numbers_f hk']; exact hnn1
          have hkey := hk'.ok.key
          have hoth := others_no hin
          refine Y4 ?_
          refine Zh8 rfl (by kernel_rfl) (cloneB_x (L := L) ht.rd (by omega)) rfl qT ?_
          rintro _ _ ⟨xa, xc, rfl, rfl⟩
          refine Y1 ?_
          refine Zhg (Zdm (cs := #[.slice _ _ _, .int .i64 2]) rfl) ?_
          refine Zh5 rfl ?_; intro b39
          refine Zh8 rfl (by kernel_rfl) (use_x hk'.ok.key (zs := fpages l') (by rw [show (fpages l').length = l'.length by simp [fpages]]; exact hk'.len) hk'.nodup (F := heldF l') (n) b39 (by have := hk'.ok.most; have := hk'.ok.w1; omega) hk'.n) rfl qT ?_
          rintro _ _ ⟨oa', oc', rfl⟩
          refine V5 ?_
          refine rx1 (Zg9 rfl (Zg7)) ?_
          have hpk := pg_used (p := p) (L := hostA ph h1 :: L) hk' ((⟨n, t, 2⟩, b39, xa, xc) : FV) (.inr hroom) hr1 htl1 (by dsimp only; omega) oa' oc'
          dsimp only at hpk
          rw [hoth] at hpk
          refine ⟨_, ⟨rfl, rfl⟩, ?_⟩
          exact ((Imp.arr (N := cl b39 #[.slice xa t.length xc, nvv 2] 106 :: ownB xa xc t :: star frA l' :: cl p (pcl { s1 with most := max s1.most (used (fpages l') n).length } { c with oa := oa', n := (used (fpages l') n).length, oc := oc' }) 102 :: fmA c.bh (fput (heldF l') n (some (hp b39))) :: fmA c.bl (lastF s1.last) :: ownI oa' oc' (used (fpages l') n) :: hostA ph h1 :: L) qV).trans (frA_mk (e := ((⟨n, t, 2⟩, b39, xa, xc) : FV)))).trans ((Imp.arr qV).trans hpk)
        · have e : PagerS.saveP s h n t = PagerS.roomP s h := by
            unfold PagerS.saveP
            rw [if_pos hr, if_pos htl, hno]
            dsimp only
            rw [if_neg hz]
          rw [e]
          refine Y3 ?_
          refine Zhm 32 rfl (decide_eq_true (hz)) ?_
          refine V6 ?_
          refine rx1 (Zg9 rfl (Zg7)) ?_
          exact ⟨_, ⟨rfl, rfl⟩, qI⟩
    · have e : PagerS.saveP s h n t = (4, s, h) := by
        unfold PagerS.saveP
        rw [if_pos hr, if_neg htl]
      rw [e]
      refine fn_x Tryz.func12 rfl rfl rfl Tryz.mixed (by kernel_rfl) ?_
      intro w0
      refine Y6 ?_
      refine Zh8 rfl (by kernel_rfl) (right_p n) rfl qT ?_
      rintro _ _ ⟨rfl, rfl⟩
      refine Y6 ?_
      refine Zhn 13 rfl (decide_eq_false (fun hh => hh hr)) ?_
      refine V2 ?_
      refine x_pgA fun c l hk => ?_
      simp only [List.cons_append, List.nil_append]
      have hkey := hk.ok.key
      refine Y6 ?_
      refine Zhp rfl qH (pg_f hkey (k := 3) rfl) ?_
      refine Y1 ?_
      refine Zhm 21 rfl (decide_eq_true (htl)) ?_
      refine V5 ?_
      refine rx1 (Zg9 rfl (Zg7)) ?_
      exact ⟨_, ⟨rfl, rfl⟩, (Imp.arr (N := pgL p s c l ++ (hostA ph h :: L)) qV).trans (pgA_mk hk)⟩
  · have e : PagerS.saveP s h n t = (PagerS.rightP s n, s, h) := by unfold PagerS.saveP; rw [if_neg hr]
    rw [e]
    refine fn_x Tryz.func12 rfl rfl rfl Tryz.mixed (by kernel_rfl) ?_
    intro w0
    refine Y6 ?_
    refine Zh8 rfl (by kernel_rfl) (right_p n) rfl qT ?_
    rintro _ _ ⟨rfl, rfl⟩
    refine Y6 ?_
    refine Zhm 13 rfl (decide_eq_true (hr)) ?_
    refine V6 ?_
    refine rx1 (Zg9 rfl (Zg7)) ?_
    exact ⟨_, ⟨rfl, rfl⟩, qI⟩
end
end Go.Sl

/- engine: literals of structs, part by part, over lists of cells. -/
set_option linter.unusedVariables false
namespace Go.Sl
open Go
/-- A part that is a row of cells. -/
theorem fill_seg {pl : Nat → Option (Nat × Nat)} {A B C V : List Value} {cs : Array Value} {i o n : Nat} {v : Value} {rest : List (Nat × Value)} (hp : pl i = some (o, n)) (ho : o = A.length) (hn : n = B.length) (hv : v.cells.toList = V) (hl : V.length = B.length) (k : Instr.fill pl (A ++ (V ++ C)).toArray rest = some cs) : Instr.fill pl (A ++ (B ++ C)).toArray ((i, v) :: rest) = some cs := by
  subst ho hn hv
  exact fill_part (z' := (A ++ (v.cells.toList ++ C)).toArray) hp (by rw [← hl]; simp) (by simp) (wr_mid A B C _ _ rfl hl) k
/-- A part that is one cell, behind a row of them. -/
theorem fill_tl {pl : Nat → Option (Nat × Nat)} {H T T' : List Value} {cs : Array Value} {i o k : Nat} {v : Value} {rest : List (Nat × Value)} (hp : pl i = some (o, 1)) (ho : o = H.length + k) (hk : k < T.length) (hv : v.cells = #[v]) (hT : T.set k v = T') (hh : Instr.fill pl (H ++ T').toArray rest = some cs) : Instr.fill pl (H ++ T).toArray ((i, v) :: rest) = some cs := by
  subst ho hT
  refine fill_part (z' := (H ++ T.set k v).toArray) hp (by rw [hv]; rfl) (by simp; omega) ?_ hh
  rw [hv]
  apply Array.ext'
  rw [wr_toList _ _ _ (by simp; omega)]
  simp [List.take_append, List.drop_append, List.set_eq_take_append_cons_drop, hk]
  rw [List.take_of_length_le (by omega), List.drop_of_length_le (by omega), show H.length + k + 1 - H.length = k + 1 by omega]; rfl
/-- A pointer as an interface. -/
theorem Zol {P : Program} {ρ : Env} {T E : Nat} {x : Operand} {a : Option Addr} [hs : TyPtr P T E] (hx : ev ρ x = .pointer a) : PV P (.makeInterface T x) ρ (.iface T (.pointer a)) := by
  intro oo w ho; unfold execOp; rw [ho]; refine op_run_value ?_; rw [hx]
  unfold Instr.makeInterface
  rw [run_bind P _ _ w w _ (run_under hs.h)]; rfl
end Go.Sl

/- pager: New, walked. -/
set_option maxHeartbeats 4000000
set_option maxRecDepth 10000
set_option linter.unusedVariables false
set_option linter.unusedSimpArgs false
namespace Go.Sl
open Go Go.Proofs
attribute [local irreducible] pt old pur ex all den denOps denS xOps xC cX CX xthen xblk xcut xloop xng retX resX Calls PV Rd Con
attribute [local irreducible] hostA pgSealB pgOpenR PagerS.writeP PagerS.roomP HostS.readR
open PagerS (PS Over)
theorem met_pages (ph : Nat) : Met Tryz.prog 28 (hp ph) "Pages" 209 (hp ph) := by intro w; kernel_rfl
theorem met_size (ph : Nat) : Met Tryz.prog 28 (hp ph) "Size" 212 (hp ph) := by intro w; kernel_rfl
abbrev ptail0 : List Value := [.int .u64 0, .int .i64 0, .int .i64 0, .int .i64 0, .map none, .slice none 0 0, .map none, .int .i64 0, .int .u32 0, .int .i64 0]
abbrev ptailN (round : BitVec 64) (window pages : Int) (text : Nat) (bh bl : Nat) : List Value := [u64b round, .int .i64 window, .int .i64 pages, nvv text, .map (some bh), .slice none 0 0, .map (some bl), .int .i64 0, .int .u32 0, .int .i64 0]
theorem newp_fill {pl : Nat → Option (Nat × Nat)} {ph : Nat} {key : List Byte} {round : BitVec 64} {window pages : Int} {text bh bl : Nat} (hk : key.length = 32) (h0 : pl 0 = some (0, 1)) (h1 : pl 1 = some (1, 32)) (h2 : pl 2 = some (33, 1)) (h3 : pl 3 = some (34, 1)) (h4 : pl 4 = some (35, 1)) (h5 : pl 5 = some (36, 1)) (h6 : pl 6 = some (37, 1)) (h8 : pl 8 = some (39, 1)) :
    Instr.fill pl ([] ++ ([Value.nilIface] ++ (List.replicate 32 (Value.int .u8 0) ++ ptail0))).toArray [(0, stV ph), (1, .agg (key.map u8b).toArray), (2, u64b round), (3, .int .i64 window), (4, .int .i64 pages), (5, nvv text), (6, .map (some bh)), (8, .map (some bl))] = some ((stV ph :: key.map u8b) ++ ptailN round window pages text bh bl).toArray := by
  refine fill_seg (V := [stV ph]) h0 rfl rfl rfl rfl ?_
  refine fill_seg (A := [stV ph]) (V := key.map u8b) h1 rfl (by simp) (by simp [Value.cells]) (by simp [hk]) ?_
  have hh : (stV ph :: key.map u8b).length = 33 := by simp [hk]
  refine fill_tl (H := stV ph :: key.map u8b) (k := 0) h2 (by omega) (by decide) rfl rfl ?_
  refine fill_tl (k := 1) h3 (by omega) (by simp) rfl rfl ?_
  refine fill_tl (k := 2) h4 (by omega) (by simp) rfl rfl ?_
  refine fill_tl (k := 3) h5 (by omega) (by simp) rfl rfl ?_
  refine fill_tl (k := 4) h6 (by omega) (by simp) rfl rfl ?_
  refine fill_tl (k := 6) h8 (by omega) (by simp) rfl rfl ?_
  exact fill_end
section
variable {ph : Nat} {h : HostS.HS}
/-- What New answers. -/
def newR (h : HostS.HS) (window : Int) : Nat := if window < 2 ∨ 16 < window then 2 else if h.size ≤ 28 then 5 else 0
theorem new_x {key : List Byte} (hk : key.length = 32) (round : BitVec 64) (window : Int) :
    Con Tryz.prog 38 [stV ph, .agg (key.map u8b).toArray, u64b round, .int .i64 window] [hostA ph h] (fun r M => (newR h window = 0 ∧ ∃ p, r = .tuple #[hp p, nvv 0] ∧ M = [pgA p ph (PagerS.freshP key round window.toNat h.pages (h.size - 28)), hostA ph h] ∧ PagerS.Ok (PagerS.freshP key round window.toNat h.pages (h.size - 28)) ∧ Over (PagerS.freshP key round window.toNat h.pages (h.size - 28)) h) ∨ (newR h window ≠ 0 ∧ r = .tuple #[.pointer none, nvv (newR h window)] ∧ M = [hostA ph h])) := by
  refine Con.get (fun w0 w F H => host_ok qH H) ?_
  intro hho
  unfold newR
  by_cases hw1 : window < 2
  · rw [if_pos (.inl hw1)]
    refine fn_x Tryz.func38 rfl rfl rfl Tryz.mixed (by kernel_rfl) ?_
    intro w0
    refine Y1 ?_
    refine Zh5 rfl ?_; intro b5
    refine Y5 ?_
    refine Zhg (Zbn (b := 2) rfl rfl) ?_
    refine Zhm 13 rfl (decide_eq_true (hw1)) ?_
    refine V10 ?_
    refine rx2 (Zhb rfl (Zg9 rfl (Zg7))) ?_
    exact ⟨_, .inr ⟨by omega, rfl, rfl⟩, qI⟩
  by_cases hw2 : 16 < window
  · rw [if_pos (.inr hw2)]
    refine fn_x Tryz.func38 rfl rfl rfl Tryz.mixed (by kernel_rfl) ?_
    intro w0
    refine Y1 ?_
    refine Zh5 rfl ?_; intro b5
    refine Y5 ?_
    refine Zhg (Zbn (b := 2) rfl rfl) ?_
    refine Zhn 13 rfl (decide_eq_false (hw1)) ?_
    refine Y2 ?_
    first|refine Y0 ?_|(refine Zhh rfl ?_; (refine Zhg (Zbp (b := 16) rfl rfl) ?_))
    refine Zhm 16 rfl (decide_eq_true (hw2)) ?_
    refine V7 ?_
    refine rx2 (Zhb rfl (Zg9 rfl (Zg7))) ?_
    exact ⟨_, .inr ⟨by omega, rfl, rfl⟩, qI⟩
  rw [if_neg (show ¬ (window < 2 ∨ 16 < window) by omega)]
  have hp0 := hho.p0
  have hp1 := hho.p1
  have hz0 := hho.z0
  have hz1 := hho.z1
  by_cases hz : h.size ≤ 28
  · rw [if_pos hz]
    refine fn_x Tryz.func38 rfl rfl rfl Tryz.mixed (by kernel_rfl) ?_
    intro w0
    refine Y1 ?_
    refine Zh5 rfl ?_; intro b5
    refine Y5 ?_
    refine Zhg (Zbn (b := 2) rfl rfl) ?_
    refine Zhn 13 rfl (decide_eq_false (hw1)) ?_
    refine Y2 ?_
    first|refine Y0 ?_|(refine Zhh rfl ?_; (refine Zhg (Zbp (b := 16) rfl rfl) ?_))
    refine Zhn 16 rfl (decide_eq_false (hw2)) ?_
    refine Y5 ?_
    refine Znt rfl (met_pages ph) (by kernel_rfl) (pages_x) rfl qT ?_
    rintro _ _ ⟨rfl, rfl⟩
    refine Y2 ?_
    refine Znt rfl (met_size ph) (by kernel_rfl) (size_x) rfl qT ?_
    rintro _ _ ⟨rfl, rfl⟩
    refine Y6 ?_
    refine Zhg (Zbn (b := 0) rfl rfl) ?_
    refine Zhn 23 rfl (decide_eq_false ((show ¬ h.pages < 0 by omega))) ?_
    refine Y2 ?_
    first|refine Y0 ?_|(refine Zhh rfl ?_; (refine Zhg (Zbp (b := 65536) rfl rfl) ?_))
    refine Zhn 26 rfl (decide_eq_false ((show ¬ h.pages > 65536 by omega))) ?_
    refine Y3 ?_
    first|refine Y0 ?_|(refine Zhh rfl ?_; (refine Zhg (Zmg (b := 28) rfl rfl) ?_))
    refine Zhm 30 rfl (decide_eq_true (hz)) ?_
    refine V11 ?_
    refine rx2 (Zhb rfl (Zg9 rfl (Zg7))) ?_
    exact ⟨_, .inr ⟨by omega, rfl, rfl⟩, qI⟩
  · rw [if_neg hz]
    have hok : PagerS.Ok (PagerS.freshP key round window.toNat h.pages (h.size - 28)) := PagerS.ok_fresh hk (by omega) (by omega) (by omega)
    have hov : Over (PagerS.freshP key round window.toNat h.pages (h.size - 28)) h := ⟨rfl, by show h.size = h.size - 28 + 28; omega⟩
    refine fn_x Tryz.func38 rfl rfl rfl Tryz.mixed (by kernel_rfl) ?_
    intro w0
    refine Y1 ?_
    refine Zh5 rfl ?_; intro b5
    refine Y5 ?_
    refine Zhg (Zbn (b := 2) rfl rfl) ?_
    refine Zhn 13 rfl (decide_eq_false (hw1)) ?_
    refine Y2 ?_
    first|refine Y0 ?_|(refine Zhh rfl ?_; (refine Zhg (Zbp (b := 16) rfl rfl) ?_))
    refine Zhn 16 rfl (decide_eq_false (hw2)) ?_
    refine Y5 ?_
    refine Znt rfl (met_pages ph) (by kernel_rfl) (pages_x) rfl qT ?_
    rintro _ _ ⟨rfl, rfl⟩
    refine Y2 ?_
    refine Znt rfl (met_size ph) (by kernel_rfl) (size_x) rfl qT ?_
    rintro _ _ ⟨rfl, rfl⟩
    refine Y6 ?_
    refine Zhg (Zbn (b := 0) rfl rfl) ?_
    refine Zhn 23 rfl (decide_eq_false ((show ¬ h.pages < 0 by omega))) ?_
    refine Y2 ?_
    first|refine Y0 ?_|(refine Zhh rfl ?_; (refine Zhg (Zbp (b := 65536) rfl rfl) ?_))
    refine Zhn 26 rfl (decide_eq_false ((show ¬ h.pages > 65536 by omega))) ?_
    refine Y3 ?_
    first|refine Y0 ?_|(refine Zhh rfl ?_; (refine Zhg (Zmg (b := 28) rfl rfl) ?_))
    refine Zhn 30 rfl (decide_eq_false (hz)) ?_
    refine Y3 ?_
    first|refine Y0 ?_|(refine Zhh rfl ?_; (refine Zhg (Zmh (b := 4124) rfl rfl) ?_))
    refine Zhn 34 rfl (decide_eq_false ((show ¬ 4124 < h.size by omega))) ?_
    refine V3 ?_
    have e0 : window = ((window.toNat : Nat) : Int) := by omega
    refine Y7 ?_
    refine Zhg (Zmb (b := 28) rfl rfl (by omega) (by omega)) ?_
    refine Zoh ?_; intro bh
    refine Zoh ?_; intro bl
    refine Zhg (Zdm (cs := ((stV ph :: key.map u8b) ++ ptailN round window h.pages (h.size - 28) bh bl).toArray) (newp_fill hk rfl rfl rfl rfl rfl rfl rfl rfl)) ?_
    refine Zh5 rfl ?_; intro b46
    refine V3 ?_
    have ec : ((stV ph :: key.map u8b) ++ ptailN round window h.pages (h.size - 28) bh bl).toArray = pcl (PagerS.freshP key round window.toNat h.pages (h.size - 28)) ⟨ph, bh, none, 0, 0, bl⟩ := by
      unfold pcl
      show ((stV ph :: key.map u8b) ++ ptailN round window h.pages (h.size - 28) bh bl).toArray = ((stV ph :: key.map u8b) ++ [u64b round, .int .i64 ((window.toNat : Nat) : Int), .int .i64 h.pages, nvv (h.size - 28), .map (some bh), .slice none 0 0, .map (some bl), nvv 0, u32b (BitVec.ofNat 32 0), nvv 0]).toArray
      rw [← e0]; rfl
    rw [ec]
    refine rx2 (Zhb rfl (Zg9 rfl (Zg7))) ?_
    refine ⟨_, .inl ⟨rfl, b46, rfl, rfl, hok, hov⟩, ?_⟩
    have hkk : PgOk ph (PagerS.freshP key round window.toNat h.pages (h.size - 28)) ⟨ph, bh, none, 0, 0, bl⟩ [] := ⟨hok, rfl, rfl, rfl⟩
    have e1 : (fun _ => none : Int → Option Value) = heldF [] := rfl
    have e2 : (fun _ => none : Int → Option Value) = lastF (fun _ => none) := rfl
    have h1 : Imp (fmA bh (heldF []) :: fmA bl (lastF (fun _ => none)) :: cl b46 (pcl (PagerS.freshP key round window.toNat h.pages (h.size - 28)) ⟨ph, bh, none, 0, 0, bl⟩) 102 :: [hostA ph h]) (pgA b46 ph (PagerS.freshP key round window.toNat h.pages (h.size - 28)) :: [hostA ph h]) :=
      ((Imp.own_nil (E := 3) (size := 1)).trans (star_nil (A := frA))).trans ((Imp.arr (N := pgL b46 (PagerS.freshP key round window.toNat h.pages (h.size - 28)) ⟨ph, bh, none, 0, 0, bl⟩ [] ++ [hostA ph h]) qV).trans (pgA_mk hkk))
    rw [e2] at *
    exact (Imp.arr qV).trans h1
theorem pnew_ok {key : List Byte} (hk : key.length = 32) (round : BitVec 64) {window : Int} (hz : newR h window = 0) : Con Tryz.prog 38 [stV ph, .agg (key.map u8b).toArray, u64b round, .int .i64 window] [hostA ph h] (fun r M => ∃ p, r = .tuple #[hp p, nvv 0] ∧ M = [pgA p ph (PagerS.freshP key round window.toNat h.pages (h.size - 28)), hostA ph h]) :=
  (new_x hk round window).mono fun r M hh => by
    rcases hh with ⟨_, p, h1, h2, _, _⟩|⟨hn, _⟩
    · exact ⟨M, Imp.refl _, p, h1, h2⟩
    · exact absurd hz hn
end
end Go.Sl

/- pager: two pagers that are asked alike are seen alike, whatever stands on their pages. No program in sight. -/
set_option linter.unusedVariables false
set_option linter.unusedSimpArgs false
namespace Go.Sl.PagerS
open Go Go.Sl Go.Sl.HostS
attribute [local irreducible] pgSealB pgOpenR
structure HRel (h g : HS) : Prop where
  pages : h.pages = g.pages
  size : h.size = g.size
  ops : h.ops = g.ops
  log : h.log = g.log
  down : h.down = g.down
  coming : ∀ k, before (h.coming k) = before (g.coming k) ∧ behind (h.coming k) = behind (g.coming k)
abbrev pi (f : Fr) : Int × Nat := (f.page, f.is)
structure SRel (s t : PS) : Prop where
  held : s.held.map pi = t.held.map pi
  round : s.round = t.round
  window : s.window = t.window
  pages : s.pages = t.pages
  text : s.text = t.text
  most : s.most = t.most
  writes : s.writes = t.writes
  err : s.err = t.err
  last : s.last = t.last
section
variable {s t : PS} {h g : HS}
theorem SRel.len (r : SRel s t) : s.held.length = t.held.length := by
  have := congrArg List.length r.held
  rwa [List.length_map, List.length_map] at this
theorem SRel.numbers (r : SRel s t) : numbers s = numbers t := by
  have := congrArg (List.map Prod.fst) r.held
  rw [List.map_map, List.map_map] at this
  exact this
theorem find_pi (l : List Fr) (n : Int) : (l.find? fun f => f.page == n).map pi = (l.map pi).find? fun x => x.1 == n := by
  rw [List.find?_map]; rfl
theorem changed_pi (s : PS) (n : Int) : changedAt s n = ((((s.held.map pi).find? fun x => x.1 == n).map Prod.snd).getD 0 == 2) := by
  unfold changedAt frOf
  rw [← find_pi, Option.map_map]
  rfl
theorem SRel.changed (r : SRel s t) (n : Int) : changedAt s n = changedAt t n := by rw [changed_pi, changed_pi, r.held]
theorem SRel.right (r : SRel s t) (n : Int) : rightP s n = rightP t n := by unfold rightP; rw [r.err, r.pages]
theorem SRel.frOf (r : SRel s t) (n : Int) : (frOf s n).map pi = (frOf t n).map pi := by unfold PagerS.frOf; rw [find_pi, find_pi, r.held]
theorem SRel.next (r : SRel s t) (n : Int) : nextPl s n = nextPl t n := by
  unfold nextPl verOf
  rw [r.round, r.writes, r.last]
theorem cleaned_pi (l : List Fr) (n : Int) : (cleaned l n).map pi = (l.map pi).map fun x => if x.1 = n then (x.1, 1) else x := by
  unfold cleaned
  rw [List.map_map, List.map_map]
  apply List.map_congr_left
  intro f _
  simp only [Function.comp]
  split
  · rename_i e; rfl
  · rfl
theorem SRel.wrote (r : SRel s t) (n : Int) : SRel (wroteP s n) (wroteP t n) :=
  ⟨by show (cleaned s.held n).map pi = (cleaned t.held n).map pi; rw [cleaned_pi, cleaned_pi, r.held], r.round, r.window, r.pages, r.text, r.most, by show s.writes + 1 = t.writes + 1; rw [r.writes], r.err,
    by show setF s.last n (some (nextPl s n)) = setF t.last n (some (nextPl t n)); rw [r.next, r.last]⟩
theorem SRel.die (r : SRel s t) (e : Nat) : SRel (die s e) (die t e) := ⟨r.held, r.round, r.window, r.pages, r.text, r.most, r.writes, rfl, r.last⟩
theorem filter_pi (l : List Fr) (n : Int) : (l.filter fun f => !(f.page == n)).map pi = (l.map pi).filter fun x => !(x.1 == n) := by
  rw [List.filter_map]; rfl
theorem SRel.use (r : SRel s t) {f f' : Fr} (e : pi f = pi f') : SRel (useP s f) (useP t f') := by
  have e1 : f.page = f'.page := congrArg Prod.fst e
  have hh : ((s.held.filter fun g => !(g.page == f.page)) ++ [f]).map pi = ((t.held.filter fun g => !(g.page == f'.page)) ++ [f']).map pi := by
    rw [List.map_append, List.map_append, filter_pi, filter_pi, r.held, e1]
    simp only [List.map_cons, List.map_nil, e]
  have hl := congrArg List.length hh
  rw [List.length_map, List.length_map] at hl
  exact ⟨hh, r.round, r.window, r.pages, r.text, by show max s.most _ = max t.most _; rw [r.most, hl], r.writes, r.err, r.last⟩
theorem SRel.tail (r : SRel s t) : SRel { s with held := s.held.tail } { t with held := t.held.tail } :=
  ⟨by show s.held.tail.map pi = t.held.tail.map pi; rw [List.map_tail, List.map_tail, r.held], r.round, r.window, r.pages, r.text, r.most, r.writes, r.err, r.last⟩
theorem does_rel (r : HRel h g) (op n : Int) {b b' : Bytes} (hb : headOf b = headOf b') (act act' : HS → HS)
    (ha : ∀ x y : HS, HRel x y → HRel (act x) (act' y)) : (does h op n b act).2 = (does g op n b' act').2 ∧ HRel (does h op n b act).1 (does g op n b' act').1 := by
  obtain ⟨c1, c2⟩ := r.coming h.ops
  have ht : touchOf h op n b = touchOf g op n b' := by unfold touchOf; rw [r.size, hb]
  have htk : ∀ k, before ((taken h).coming k) = before ((taken g).coming k) ∧ behind ((taken h).coming k) = behind ((taken g).coming k) := by
    intro k
    show before (setF h.coming h.ops [] k) = before (setF g.coming g.ops [] k) ∧ behind (setF h.coming h.ops [] k) = behind (setF g.coming g.ops [] k)
    rw [r.ops]
    unfold setF
    split
    · exact ⟨rfl, rfl⟩
    · exact r.coming k
  have hlg : HRel (logged h op n b) (logged g op n b') := ⟨r.pages, r.size, by show h.ops + 1 = g.ops + 1; rw [r.ops], by show h.log ++ [touchOf h op n b] = g.log ++ [touchOf g op n b']; rw [r.log, ht], r.down, htk⟩
  have ha2 := ha _ _ hlg
  unfold does
  rw [← r.down]
  split
  · exact ⟨rfl, r⟩
  · dsimp only
    rw [← r.ops, c1]
    split
    · exact ⟨rfl, ⟨r.pages, r.size, by show h.ops + 1 = g.ops + 1; rw [r.ops], r.log, rfl, htk⟩⟩
    · rw [c2]
      split
      · exact ⟨rfl, ⟨ha2.pages, ha2.size, ha2.ops, ha2.log, rfl, ha2.coming⟩⟩
      · exact ⟨rfl, ha2⟩
theorem write_rel (r : SRel s t) (q : HRel h g) (ks : Ok s) (kt : Ok t) (hos : Over s h) (hot : Over t g) {n : Int} (hn : n ∈ numbers s) : (writeP s h n).1 = (writeP t g n).1 ∧ SRel (writeP s h n).2.1 (writeP t g n).2.1 ∧ HRel (writeP s h n).2.2 (writeP t g n).2.2 := by
  obtain ⟨a1, a2, a3⟩ := box_len ks hn
  obtain ⟨b1, b2, b3⟩ := box_len kt (r.numbers ▸ hn)
  have hts : there h n := ⟨a2, by rw [hos.pages]; exact a3⟩
  have htt : there g n := ⟨b2, by rw [hot.pages]; exact b3⟩
  have hb : headOf (boxOf s n) = headOf (boxOf t n) := by
    unfold boxOf
    rw [headOf_box, headOf_box, r.next]
  obtain ⟨d1, d2⟩ := does_rel q 1 n hb (wrote n (boxOf s n)) (wrote n (boxOf t n)) fun x y hh => ⟨hh.pages, hh.size, hh.ops, hh.log, hh.down, hh.coming⟩
  have w1 : writeR h n (boxOf s n) = ((does h 1 n (boxOf s n) (wrote n (boxOf s n))).2, (does h 1 n (boxOf s n) (wrote n (boxOf s n))).1) := by
    unfold writeR
    rw [if_pos hts, if_pos (a1.trans hos.size.symm)]
  have w2 : writeR g n (boxOf t n) = ((does g 1 n (boxOf t n) (wrote n (boxOf t n))).2, (does g 1 n (boxOf t n) (wrote n (boxOf t n))).1) := by
    unfold writeR
    rw [if_pos htt, if_pos (b1.trans hot.size.symm)]
  unfold writeP
  rw [w1, w2, r.writes]
  split
  · exact ⟨rfl, r.die 130, q⟩
  · dsimp only
    rw [d1]
    split
    · exact ⟨rfl, r.wrote n, d2⟩
    · exact ⟨rfl, r.die _, d2⟩
theorem room_rel (r : SRel s t) (q : HRel h g) (ks : Ok s) (kt : Ok t) (hos : Over s h) (hot : Over t g) : (roomP s h).1 = (roomP t g).1 ∧ SRel (roomP s h).2.1 (roomP t g).2.1 ∧ HRel (roomP s h).2.2 (roomP t g).2.2 := by
  have hd : (s.held.head?.map Fr.page).getD 0 = (t.held.head?.map Fr.page).getD 0 := by
    have := congrArg List.head? r.held
    rw [List.head?_map, List.head?_map] at this
    have := congrArg (Option.map Prod.fst) this
    rw [Option.map_map, Option.map_map] at this
    exact congrArg (fun x => x.getD 0) this
  unfold roomP
  rw [r.len, r.window]
  split
  · exact ⟨rfl, r, q⟩
  · dsimp only
    rw [hd, r.changed]
    split
    · rename_i hc
      have hn : (t.held.head?.map Fr.page).getD 0 ∈ numbers s := by
        by_cases hh : (t.held.head?.map Fr.page).getD 0 ∈ numbers s
        · exact hh
        · rw [← r.changed, changed_no hh] at hc; cases hc
      obtain ⟨w1, w2, w3⟩ := write_rel r q ks kt hos hot hn
      rw [w1]
      split
      · exact ⟨rfl, SRel.tail w2, w3⟩
      · rename_i hne; exact ⟨w1, w2, w3⟩
    · exact ⟨rfl, ⟨(SRel.tail r).held, r.round, rfl, r.pages, r.text, r.most, r.writes, r.err, r.last⟩, q⟩
theorem read_rel (q : HRel h g) {n : Int} (hts : there h n) : (readR h n).2.1 = (readR g n).2.1 ∧ HRel (readR h n).2.2 (readR g n).2.2 := by
  have htt : there g n := ⟨hts.1, q.pages ▸ hts.2⟩
  obtain ⟨d1, d2⟩ := does_rel q 0 n (b := []) (b' := []) rfl id id fun x y hh => hh
  unfold readR
  rw [if_pos hts, if_pos htt]
  dsimp only
  rw [d1]
  split
  · exact ⟨rfl, d2⟩
  · exact ⟨rfl, d2⟩
/-- What comes of two loads: the same, or the one did not open. -/
def Alike (e0 : Nat) (x : (Bytes × Nat) × PH) (y : (Bytes × Nat) × PH) : Prop :=
  (x.1.2 = y.1.2 ∧ SRel x.2.1 y.2.1 ∧ HRel x.2.2 y.2.2) ∨ (e0 = 0 ∧ x.1.2 = 120 ∧ x.2.1.err = 120 ∧ y.1.2 = 0 ∧ x.2.2.log = y.2.2.log)
end
section
variable {s t : PS} {h g : HS} {b : Int → Bytes}
/-- Over a host whose reads are not spoilt nothing fails to open. -/
theorem Sound.fetch_err (hs : Sound s h b) (h0 : s.err = 0) {n : Int} (hn : n ∉ numbers s) (hp : 0 ≤ n ∧ n < s.pages) : (fetchP s h n).1.2 = 0 ∨ (fetchP s h n).1.2 = 110 := by
  obtain ⟨l1, l2⟩ := (hs.right h0 n).2 (changed_no hn)
  have hbl := hs.len n
  have ht1 := hs.ok.t1
  have ht : there h n := ⟨hp.1, by rw [hs.over.pages]; exact hp.2⟩
  unfold fetchP
  cases hl : s.last n with
  | none => exact .inl rfl
  | some pl =>
    dsimp only
    by_cases hz : (readR h n).2.1 = 0
    · rw [if_pos hz, readR_zero hs.mild hz, l2 pl hl, pg_back _ _ _ (by omega)]
      exact .inl rfl
    · rw [if_neg hz]
      rcases readR_err3 h n ht with e|e
      · exact absurd e hz
      · exact .inr e
theorem fetch_rel (r : SRel s t) (q : HRel h g) (hst : Sound t g b) (hos : Over s h) (h0 : t.err = 0) {n : Int} (hn : n ∉ numbers t) (hp : 0 ≤ n ∧ n < t.pages) : Alike 0 (fetchP s h n) (fetchP t g n) := by
  have hts : there h n := ⟨hp.1, by rw [hos.pages, r.pages]; exact hp.2⟩
  obtain ⟨d1, d2⟩ := read_rel q hts
  have he := hst.fetch_err h0 hn hp
  unfold fetchP at he ⊢
  rw [r.last]
  cases hl : t.last n with
  | none =>
    dsimp only
    exact .inl ⟨rfl, r.use rfl, q⟩
  | some pl =>
    rw [hl] at he
    dsimp only at he ⊢
    rw [d1]
    by_cases hz : (readR g n).2.1 = 0
    · rw [if_pos hz, if_pos hz]
      rw [if_pos hz] at he
      have h2 : (pgOpenR t.key pl (readR g n).1).2 = 0 := by
        rcases open_err t.key pl (readR g n).1 with e|e
        · exact e
        · rw [if_neg (by rw [e]; omega)] at he
          dsimp only at he
          rcases he with he|he <;> omega
      rw [if_pos h2]
      by_cases h1 : (pgOpenR s.key pl (readR h n).1).2 = 0
      · rw [if_pos h1]
        exact .inl ⟨rfl, r.use rfl, d2⟩
      · rw [if_neg h1]
        have h120 : (pgOpenR s.key pl (readR h n).1).2 = 120 := (open_err _ _ _).resolve_left h1
        exact .inr ⟨rfl, h120, h120, rfl, d2.log⟩
    · rw [if_neg hz, if_neg hz]
      exact .inl ⟨rfl, r.die _, d2⟩
theorem load_rel (r : SRel s t) (q : HRel h g) (ks : Ok s) (hst : Sound t g b) (hos : Over s h) (n : Int) : Alike s.err (loadP s h n) (loadP t g n) := by
  unfold loadP
  rw [r.right]
  by_cases hr : rightP t n = 0
  · rw [if_pos hr, if_pos hr]
    obtain ⟨h0, hp⟩ := right_zero hr
    have hfr := r.frOf n
    cases hf : frOf t n with
    | some f' =>
      rw [hf] at hfr
      cases hf2 : frOf s n with
      | none => rw [hf2] at hfr; cases hfr
      | some f =>
        rw [hf2] at hfr
        exact .inl ⟨rfl, r.use (Option.some.inj hfr), q⟩
    | none =>
      rw [hf] at hfr
      cases hf2 : frOf s n with
      | some f => rw [hf2] at hfr; cases hfr
      | none =>
        dsimp only
        obtain ⟨w1, w2, w3⟩ := room_rel r q ks hst.ok hos hst.over
        rw [w1]
        obtain ⟨q1, q2, q3⟩ := hst.room h0
        obtain ⟨v1, v2, v3, v4, v5⟩ := roomP_leaves (h := g) hst.ok
        by_cases hz : (roomP t g).1 = 0
        · rw [if_pos hz, if_pos hz]
          have := fetch_rel w2 w3 q1 ((near_room s h).over hos) (q2 hz) (v1 n (frOf_none hf)) (by rw [v3]; exact hp)
          rcases this with hh|⟨_, hh⟩
          · exact .inl hh
          · exact .inr ⟨r.err.trans h0, hh⟩
        · rw [if_neg hz, if_neg hz]
          exact .inl ⟨rfl, w2, w3⟩
  · rw [if_neg hr, if_neg hr]
    exact .inl ⟨rfl, r, q⟩
theorem save_rel (r : SRel s t) (q : HRel h g) (ks : Ok s) (kt : Ok t) (hos : Over s h) (hot : Over t g) (n : Int) {x y : Bytes} (hxy : x.length = y.length) : (saveP s h n x).1 = (saveP t g n y).1 ∧ SRel (saveP s h n x).2.1 (saveP t g n y).2.1 ∧ HRel (saveP s h n x).2.2 (saveP t g n y).2.2 := by
  unfold saveP
  rw [r.right, hxy, r.text]
  by_cases hr : rightP t n = 0
  · rw [if_pos hr, if_pos hr]
    by_cases hl : y.length = t.text
    · rw [if_pos hl, if_pos hl]
      have hfr := r.frOf n
      cases hf : frOf t n with
      | some f' =>
        rw [hf] at hfr
        cases hf2 : frOf s n with
        | none => rw [hf2] at hfr; cases hfr
        | some f => exact ⟨rfl, r.use rfl, q⟩
      | none =>
        rw [hf] at hfr
        cases hf2 : frOf s n with
        | some f => rw [hf2] at hfr; cases hfr
        | none =>
          dsimp only
          obtain ⟨w1, w2, w3⟩ := room_rel r q ks kt hos hot
          rw [w1]
          split
          · exact ⟨rfl, w2.use rfl, w3⟩
          · exact ⟨w1, w2, w3⟩
    · rw [if_neg hl, if_neg hl]
      exact ⟨rfl, r, q⟩
  · rw [if_neg hr, if_neg hr]
    exact ⟨rfl, r, q⟩
/-- Where both are sound, loads are alike. -/
theorem load_rel2 {b' : Int → Bytes} (r : SRel s t) (q : HRel h g) (hss : Sound s h b') (hst : Sound t g b) (n : Int) : (loadP s h n).1.2 = (loadP t g n).1.2 ∧ SRel (loadP s h n).2.1 (loadP t g n).2.1 ∧ HRel (loadP s h n).2.2 (loadP t g n).2.2 := by
  rcases load_rel r q hss.ok hst hss.over n with hh|⟨h0s, h1, h2, h3, _⟩
  · exact hh
  · exfalso
    unfold loadP at h1
    by_cases hr : rightP s n = 0
    · rw [if_pos hr] at h1
      obtain ⟨h0, hp⟩ := right_zero hr
      cases hf : frOf s n with
      | some f => rw [hf] at h1; cases h1
      | none =>
        rw [hf] at h1
        dsimp only at h1
        obtain ⟨q1, q2, q3⟩ := hss.room h0
        obtain ⟨v1, v2, v3, v4, v5⟩ := roomP_leaves (h := h) hss.ok
        by_cases hz : (roomP s h).1 = 0
        · rw [if_pos hz] at h1
          rcases q1.fetch_err (q2 hz) (v1 n (frOf_none hf)) (by rw [v3]; exact hp) with e|e <;> omega
        · rw [if_neg hz] at h1
          dsimp only at h1
          have : (roomP s h).1 = 110 ∨ (roomP s h).1 = 130 := by
            unfold roomP at hz ⊢
            split
            · rename_i hl; rw [if_pos hl] at hz; exact absurd rfl hz
            · rename_i hl
              rw [if_neg hl] at hz
              dsimp only at hz ⊢
              split
              · rename_i hc
                rw [if_pos hc] at hz
                split
                · rename_i hw; rw [if_pos hw] at hz; exact absurd rfl hz
                · rename_i hw
                  have hn : (s.held.head?.map Fr.page).getD 0 ∈ numbers s := by
                    by_cases hh : (s.held.head?.map Fr.page).getD 0 ∈ numbers s
                    · exact hh
                    · rw [changed_no hh] at hc; cases hc
                  obtain ⟨a1, a2, a3⟩ := box_len hss.ok hn
                  have hts : there h ((s.held.head?.map Fr.page).getD 0) := ⟨a2, by rw [hss.over.pages]; exact a3⟩
                  unfold writeP at hw ⊢
                  split
                  · exact .inr rfl
                  · rename_i hwn
                    rw [if_neg hwn] at hw
                    dsimp only at hw ⊢
                    split
                    · rename_i h9; rw [if_pos h9] at hw; exact absurd rfl hw
                    · rename_i h9
                      dsimp only
                      have w1 : (writeR h ((s.held.head?.map Fr.page).getD 0) (boxOf s ((s.held.head?.map Fr.page).getD 0))).1 = (does h 1 ((s.held.head?.map Fr.page).getD 0) (boxOf s ((s.held.head?.map Fr.page).getD 0)) (wrote ((s.held.head?.map Fr.page).getD 0) (boxOf s ((s.held.head?.map Fr.page).getD 0)))).2 := by
                        unfold writeR
                        rw [if_pos hts, if_pos (a1.trans hss.over.size.symm)]
                      rw [w1] at h9 ⊢
                      rcases does_log h 1 _ (boxOf s ((s.held.head?.map Fr.page).getD 0)) (wrote ((s.held.head?.map Fr.page).getD 0) (boxOf s ((s.held.head?.map Fr.page).getD 0))) fun _ => rfl with ⟨_, e⟩|⟨_, e|e⟩
                      · exact .inl e
                      · exact absurd e h9
                      · exact .inl e
              · rename_i hc; rw [if_neg hc] at hz; exact absurd rfl hz
          omega
    · rw [if_neg hr] at h1
      dsimp only at h1
      unfold rightP at h1
      rw [if_neg (by rw [h0s]; simp)] at h1
      split at h1 <;> omega
end
end Go.Sl.PagerS

/- the statements' small helpers: slices that do not share (Apart). -/
set_option maxHeartbeats 4000000
set_option maxRecDepth 10000
set_option linter.unusedVariables false
set_option linter.unusedSimpArgs false
namespace Go.Sl
open Go Go.Proofs
attribute [local irreducible] pt old pur ex all den denOps denS xOps xC cX CX xthen xblk xcut xloop xng retX resX Calls PV Rd Con
abbrev Part := Option Addr × Nat × List Byte
def vP (p : Part) : Value := .slice p.1 p.2.2.length p.2.1
def ownP (p : Part) : Asrt := own 5 1 (vP p) p.2.2.length (p.2.2.map u8b)
theorem ownP_bs {M M' : List Asrt} {p : Part} (hm : Has M (ownP p) M') : Bs M (vP p) p.2.2 := Bs.own (E := 5) hm
theorem star_bs {α : Type} {A : α → Asrt} {l : List α} {x : α} {v : Value} {b : List Byte} (hx : x ∈ l) (h : ∀ R, Bs (A x :: R) v b) {M M' : List Asrt} (hm : Has M (star A l) M') : Bs M v b := by
  obtain ⟨R, hR⟩ := star_has (A := A) hx hm
  exact (h R).imp hR
end Go.Sl

/- trysttop: TopPages, walked. -/
set_option maxHeartbeats 4000000
set_option maxRecDepth 10000
set_option linter.unusedVariables false
set_option linter.unusedSimpArgs false
namespace Go.Sl
open Go Go.Proofs
attribute [local irreducible] pt old pur ex all den denOps denS xOps xC cX CX xthen xblk xcut xloop xng retX resX Calls PV Rd Con
attribute [local irreducible] hostA pgA PagerS.loadP PagerS.saveP ocells
open PagerS (PS Over)
abbrev nilV : Value := .slice none 0 0
/-- What a host saw of a pager's writes: no two begin alike. -/
theorem whs_take {r : BitVec 64} {pages : Int} {size : Nat} {l : List HostS.Touch} (h : PagerS.Heads r pages size l) : ∀ i, i ≤ l.length → whs (l.take i) = (List.range (PagerS.wrs (l.take i))).map fun j => leB r 8 ++ leB (BitVec.ofNat 32 j) 4 := by
  intro i
  induction i with
  | zero => intro _; rfl
  | succ i ih =>
    intro hi
    have hB : i < l.length := hi
    have hih := ih (Nat.le_of_lt hB)
    obtain ⟨_, _, _, h4⟩ := h i hB
    have e1 : whs (l.take (i + 1)) = whs (l.take i) ++ (if l[i].op = 1 then [l[i].head] else []) := by
      unfold whs
      rw [List.take_succ_eq_append_getElem hB, List.filter_append, List.map_append]
      by_cases h : l[i].op = 1 <;> simp [h]
    have e2 : PagerS.wrs (l.take (i + 1)) = PagerS.wrs (l.take i) + (if l[i].op = 1 then 1 else 0) := by
      unfold PagerS.wrs
      rw [List.take_succ_eq_append_getElem hB, List.countP_append]
      by_cases h : l[i].op = 1 <;> simp [h]
    rw [e1, e2, hih]
    rcases h4 with ⟨ho, _⟩|⟨ho, hh⟩
    · rw [if_neg (by omega), if_neg (by omega), List.append_nil, Nat.add_zero]
    · rw [if_pos ho, if_pos ho, List.range_succ, List.map_append, hh]; rfl
theorem heads_unlike {r : BitVec 64} {pages : Int} {size : Nat} {l : List HostS.Touch} (h : PagerS.Heads r pages size l) (hw : PagerS.wrs l ≤ 4294967295) (i : Nat) (hi : i < l.length) (ho : l[i].op = 1) : l[i].head ∉ whs (l.take i) := by
  rw [whs_take h i (Nat.le_of_lt hi)]
  obtain ⟨_, _, _, h4⟩ := h i hi
  rcases h4 with ⟨ho2, _⟩|⟨_, hh⟩
  · omega
  rw [hh]
  intro hm
  obtain ⟨j, hj, he⟩ := List.mem_map.1 hm
  have hj := List.mem_range.1 hj
  have h2 := (List.append_inj he rfl).2
  have h3 : BitVec.ofNat 32 j = BitVec.ofNat 32 (PagerS.wrs (l.take i)) := by
    rw [← low_le (w := 32) (n := 4) (BitVec.ofNat 32 j) rfl, h2, low_le (w := 32) (n := 4) _ rfl]
  have hle : PagerS.wrs (l.take i) ≤ PagerS.wrs l := List.Sublist.countP_le (List.take_sublist _ _)
  have h5 := congrArg BitVec.toNat h3
  rw [BitVec.toNat_ofNat, BitVec.toNat_ofNat] at h5
  omega
/-- A book's cells. -/
def bcs (x : BookV) : Array Value := x.cells.toArray
section
variable {key : List Byte} {round : BitVec 64} {pages text window : Int}
theorem bcs_len (hk : key.length = 32) : (bcs ⟨key, round, pages, text, window⟩).size = 36 := by unfold bcs; simp [BookV.cells, hk]
theorem bcs_key (hk : key.length = 32) : (bcs ⟨key, round, pages, text, window⟩).extract 0 (0 + 32) = (key.map u8b).toArray := by
  unfold bcs
  apply Array.ext'
  simp [BookV.cells, List.take_append, List.take_of_length_le, hk]
theorem bcs_round (hk : key.length = 32) : (bcs ⟨key, round, pages, text, window⟩)[32]? = some (u64b round) := by unfold bcs; simp [BookV.cells, List.getElem?_append, List.getElem?_cons, hk]
theorem bcs_pages (hk : key.length = 32) : (bcs ⟨key, round, pages, text, window⟩)[33]? = some (.int .i64 pages) := by unfold bcs; simp [BookV.cells, List.getElem?_append, List.getElem?_cons, hk]
theorem bcs_text (hk : key.length = 32) : (bcs ⟨key, round, pages, text, window⟩)[34]? = some (.int .i64 text) := by unfold bcs; simp [BookV.cells, List.getElem?_append, List.getElem?_cons, hk]
theorem bcs_window (hk : key.length = 32) : (bcs ⟨key, round, pages, text, window⟩)[35]? = some (.int .i64 window) := by unfold bcs; simp [BookV.cells, List.getElem?_append, List.getElem?_cons, hk]
theorem bcs_withK (hk : key.length = 32) {k : List Byte} (hk2 : k.length = 32) : wr (bcs ⟨key, round, pages, text, window⟩) 0 (k.map u8b) = bcs ⟨k, round, pages, text, window⟩ := by
  unfold bcs
  have := wr_mid [] (key.map u8b) ([u64b round] ++ ([.int .i64 pages] ++ ([.int .i64 text] ++ [.int .i64 window]))) (k.map u8b) 0 rfl (by simp [hk, hk2])
  simpa [BookV.cells] using this
theorem bcs_one (x : BookV) : (bcs x).toList.all oneC = true := by unfold bcs; simp [BookV.cells, oneC]
end
abbrev hsT (pn n : Nat) : HostS.HS := HostS.fresh (pn : Int) (n + 28) []
abbrev psT (key : List Byte) (round : BitVec 64) (wn pn n : Nat) : PS := PagerS.freshP key round wn (pn : Int) n
attribute [local irreducible] bcs
section
variable {L : List Asrt} {key : List Byte} {round : BitVec 64} {pn n wn : Nat}
theorem newT (hn : 1 ≤ n) (hw : 2 ≤ wn ∧ wn ≤ 16) : newR (hsT pn n) (wn : Int) = 0 := by
  unfold newR
  rw [if_neg (by omega), if_neg (show ¬ (hsT pn n).size ≤ 28 by show ¬ n + 28 ≤ 28; omega)]
theorem held_t (hk : key.length = 32) (hpg : 1 ≤ pn ∧ pn ≤ 64) (hn : 1 ≤ n ∧ n ≤ 4096) (hw : 2 ≤ wn ∧ wn ≤ 16) : Con Tryz.prog 10 [.agg (bcs ⟨key, round, pn, n, wn⟩)] L (fun r M => ∃ ph p, r = .tuple #[hp ph, hp p, .bool true] ∧ M = pgA p ph (psT key round wn pn n) :: hostA ph (hsT pn n) :: L) := by
  have hlen := bcs_len (round := round) (pages := (pn : Int)) (text := (n : Int)) (window := (wn : Int)) hk
  have hone := bcs_one ⟨key, round, pn, n, wn⟩
  have c0 := bcs_key (round := round) (pages := (pn : Int)) (text := (n : Int)) (window := (wn : Int)) hk
  have c1 := bcs_round (round := round) (pages := (pn : Int)) (text := (n : Int)) (window := (wn : Int)) hk
  have c2 := bcs_pages (round := round) (pages := (pn : Int)) (text := (n : Int)) (window := (wn : Int)) hk
  have c3 := bcs_text (round := round) (pages := (pn : Int)) (text := (n : Int)) (window := (wn : Int)) hk
  have c4 := bcs_window (round := round) (pages := (pn : Int)) (text := (n : Int)) (window := (wn : Int)) hk
  have hmb : HostS.mayBe (pn : Int) ((n + 28 : Nat) : Int) [] := ⟨⟨by omega, by omega, by omega, by omega⟩, rfl⟩
  have hnw := new_ok (L := L) (pn : Int) ((n + 28 : Nat) : Int) (fv := nilV) (fl := []) (by simp) (by simp) Rd.nil hmb
  have hpn := fun ph => pnew_ok (ph := ph) (h := hsT pn n) hk round (newT (pn := pn) hn.1 hw)
  have ef : PagerS.freshP key round ((wn : Int)).toNat (hsT pn n).pages ((hsT pn n).size - 28) = psT key round wn pn n := by
    show PagerS.freshP key round wn (pn : Int) (n + 28 - 28) = _
    rw [Nat.add_sub_cancel]
  rw [ef] at hpn
  refine fn_x Tryz.func10 rfl rfl rfl Tryz.mixed (by kernel_rfl) ?_
  intro w0
  refine Y1 ?_
  refine Zh5 rfl ?_; intro b1
  refine Y6 ?_
  refine Zhp rfl qH (c2) ?_
  refine Y1 ?_
  refine Zhp rfl qH (c3) ?_
  refine Y1 ?_
  refine Zh8 rfl (by kernel_rfl) (hnw) rfl qT ?_
  rintro _ _ ⟨ph, rfl, rfl⟩
  refine Y10 ?_
  refine Zhn 18 rfl (decide_eq_false ((fun hh => hh rfl))) ?_
  refine Y3 ?_
  refine Zhn 21 rfl (rfl) ?_
  refine V3 ?_
  refine Zgp (Imp.arr (N := hostA ph (hsT pn n) :: cl b1 (bcs ⟨key, round, pn, n, wn⟩) 26 :: L) qV) ?_
  refine Y2 ?_
  refine Zhg (Zol rfl) ?_
  refine Y1 ?_
  refine Zhq (n := 32) rfl qH qZ (c0) ?_
  refine Y1 ?_
  refine Zhp rfl qH (c1) ?_
  refine Y1 ?_
  refine Zhp rfl qH (c4) ?_
  refine Zh8 rfl (by kernel_rfl) (hpn ph) rfl qT ?_
  rintro _ _ ⟨p, rfl, rfl⟩
  refine V7 ?_
  refine Zij ([cl b1 (bcs ⟨key, round, pn, n, wn⟩) 26]) [10, 17, 22, 23] (.q 0 (.q 1 (.q 2 (.q 3 (.q 4 (.q 5 (.q 6 (.q 7 (.q 8 (.q 9 (.q 11 (.r 12 (.e 10 true (.q 13 (.q 14 (.q 15 (.q 16 (.q 18 (.r 19 (.e 17 true (.q 20 (.q 21 (.r 22 (.r 23 (.q 24 .nil))))))))))))))))))))))))) (by kernel_rfl) (by kernel_rfl) (Imp.arr qV) ?_
  refine W4 ?_
  refine Zi5 38 rfl (decide_eq_true (rfl)) ?_
  refine W3 ?_
  refine Zi5 41 rfl (rfl) ?_
  refine W4 ?_
  first|refine Zi1 rfl rfl ?_|refine Zi2 rfl rfl ?_|refine Ziw rfl rfl rfl qH (c2) ?_
  refine Ziq rfl ?_
  first|refine Y0 ?_|(refine Zhh rfl ?_; (refine Zh8 rfl (by kernel_rfl) (pages_p (p := p) (ph := ph)) rfl qT ?_); (rintro _ _ ⟨rfl, rfl⟩); (refine Zg2 qA ?_))
  refine Zg3 ⟨fun _ => Imp.arr qV, ?_⟩
  first|refine Zio rfl rfl ?_|refine Zip rfl rfl ?_|refine Zin rfl rfl (Zbr (a := (pn : Int)) (b := (pn : Int)) rfl rfl) ?_
  refine Zi5 48 rfl (decide_eq_true (rfl)) ?_
  refine W4 ?_
  first|refine Zi1 rfl rfl ?_|refine Zi2 rfl rfl ?_|refine Ziw rfl rfl rfl qH (c3) ?_
  refine Ziq rfl ?_
  first|refine Y0 ?_|(refine Zhh rfl ?_; (refine Zh8 rfl (by kernel_rfl) (text_p (p := p) (ph := ph)) rfl qT ?_); (rintro _ _ ⟨rfl, rfl⟩); (refine Zg2 qA ?_))
  refine Zg3 ⟨fun _ => Imp.arr qV, ?_⟩
  first|refine Zio rfl rfl ?_|refine Zip rfl rfl ?_|refine Zin rfl rfl (Zmj (a := n) (b := n) rfl rfl) ?_
  refine Zi5 55 rfl (decide_eq_true (rfl)) ?_
  refine W5 ?_
  refine Ct.o ?_
  refine rx3 (Zhb rfl (Zhb rfl (Zha rfl (Zg7)))) ?_
  exact ⟨_, ⟨ph, p, rfl, rfl⟩, qI⟩
end
end Go.Sl

/- trystlaw13.Life opened. -/
set_option linter.unusedVariables false
set_option linter.unusedSimpArgs false
set_option maxHeartbeats 2000000
namespace Go.Sl
open Go Go.Proofs Go.ChangeShapes Go.WideShapes Go.ChangeAt Go.RowKit
structure FaultV where
  at_ : Int
  kind_ : Int
  page_ : Int
  byte_ : Int
  by_ : BitVec 8
  back_ : Int
section
variable {H : Type} {enc : TypeId × Value → H} {w : World} {base : Nat} {spare : Nat → Bool} {held : Bool}
end
section
variable {H : Type} {enc : TypeId × Value → H} {w : World} {base : Nat} {spare : Nat → Bool} {held : Bool}
end
structure OpV where
  kind_ : Int
  page_ : Int
  text_V : Value
  text_ : List Byte
section
variable {H : Type} {enc : TypeId × Value → H} {w : World} {base : Nat} {spare : Nat → Bool} {held : Bool}
end
section
variable {H : Type} {enc : TypeId × Value → H} {w : World} {base : Nat} {spare : Nat → Bool} {held : Bool}
end
structure PLifeV where
  pages_ : Int
  size_ : Int
  window_ : Int
  key_ : List Byte
  round_ : BitVec 64
  faults_V : Value
  faults_ : List FaultV
  script_V : Value
  script_ : List OpV
section
variable {H : Type} {enc : TypeId × Value → H} {w : World} {base : Nat} {spare : Nat → Bool} {held : Bool}
end
end Go.Sl

/- trystlaw13: a life's cells; made, right, walked; lists of ints compared. -/
set_option maxHeartbeats 4000000
set_option maxRecDepth 10000
set_option linter.unusedVariables false
set_option linter.unusedSimpArgs false
namespace Go.Sl
open Go Go.Proofs
attribute [local irreducible] pt old pur ex all den denOps denS xOps xC cX CX xthen xblk xcut xloop xng retX resX Calls PV Rd Con
attribute [local irreducible] hostA pgA
open PagerS (PS Over)
theorem pg_ok {p ph : Nat} {s : PS} {M M' : List Asrt} {F : Asrt} {w0 w : World} (hm : Has M (pgA p ph s) M') (H : St w0 w (F :: M)) : PagerS.Ok s := by
  have H := H.pick (.there hm)
  unfold pgA at H
  obtain ⟨t, H⟩ := H.ex_get
  exact (St.pur_get (St.all_get H)).ok
def pF (x : FaultV) : HostS.Fault := ⟨x.at_, x.kind_, x.page_, x.byte_, x.by_, x.back_⟩
def flts (x : PLifeV) : List HostS.Fault := x.faults_.map pF
section
variable {x : PLifeV}
end
/-- The host, and the pager, of a life. -/
def hs0 (x : PLifeV) : HostS.HS := HostS.fresh x.pages_ x.size_.toNat (flts x)
/-- May there be a pager? -/
def Made (x : PLifeV) : Prop := HostS.mayBe x.pages_ x.size_ (flts x) ∧ newR (hs0 x) x.window_ = 0
section
variable {L : List Asrt} {x : PLifeV}
end
end Go.Sl

/- trystlaw13: play, walked; two logs compared. -/
set_option maxHeartbeats 4000000
set_option maxRecDepth 10000
set_option linter.unusedVariables false
set_option linter.unusedSimpArgs false
namespace Go.Sl
open Go Go.Proofs
attribute [local irreducible] pt old pur ex all den denOps denS xOps xC cX CX xthen xblk xcut xloop xng retX resX Calls PV Rd Con
attribute [local irreducible] hostA pgA PagerS.loadP PagerS.saveP
attribute [local irreducible] ocells
open PagerS (PS Over)
section
variable {L : List Asrt} {x : PLifeV} {p ph : Nat} {s : PS} {h : HostS.HS}
end
end Go.Sl

/- trystlaw13: works, walked. -/
set_option maxHeartbeats 4000000
set_option maxRecDepth 10000
set_option linter.unusedVariables false
set_option linter.unusedSimpArgs false
namespace Go.Sl
open Go Go.Proofs
attribute [local irreducible] pt old pur ex all den denOps denS xOps xC cX CX xthen xblk xcut xloop xng retX resX Calls PV Rd Con
attribute [local irreducible] hostA pgSealB pgOpenR
open PagerS (PS Over)
theorem writeP_is {s : PS} {h : HostS.HS} {b : Int → List Byte} (hq : PagerS.Quiet s h b) (hw : s.writes < 4294967295) {n : Int} (hn : n ∈ PagerS.numbers s) : PagerS.writeP s h n = (0, PagerS.wroteP s n, HostS.wrote n (PagerS.boxOf s n) (HostS.logged h 1 n (PagerS.boxOf s n))) := by
  obtain ⟨h0, _⟩ := hq.write hw hn
  obtain ⟨_, hz, e⟩ := PagerS.writeP_zero h0
  rw [e, PagerS.writeR_zero hz]
theorem fetchP_is {s : PS} {h : HostS.HS} {b : Int → List Byte} (hq : PagerS.Quiet s h b) {n : Int} (hn : n ∉ PagerS.numbers s) (hp : 0 ≤ n ∧ n < s.pages) {pl : Plc} (hl : s.last n = some pl) : PagerS.fetchP s h n = ((b n, 0), PagerS.useP s ⟨n, b n, 1⟩, HostS.logged h 0 n []) := by
  have hrd := PagerS.readR_calm hq.calm (n := n) ⟨hp.1, by rw [hq.sound.over.pages]; exact hp.2⟩
  obtain ⟨_, l2⟩ := (hq.sound.right hq.err n).2 (PagerS.changed_no hn)
  have hbl := hq.sound.len n
  have ht1 := hq.sound.ok.t1
  unfold PagerS.fetchP
  rw [hl]
  dsimp only
  rw [hrd]
  dsimp only
  rw [if_pos rfl, l2 pl hl, pg_back _ _ _ (by omega)]
  rfl
namespace PlW
def k5 : List Byte := 5#8 :: List.replicate 31 0#8
def s0 : PS := PagerS.freshP k5 9#64 2 4 2
def h0 : HostS.HS := HostS.fresh 4 30 []
def s1 : PS := PagerS.useP s0 ⟨1, [5#8, 6#8], 2⟩
def s2 : PS := PagerS.useP s1 ⟨2, [7#8, 8#8], 2⟩
def cut (s : PS) : PS := { s with held := s.held.tail }
def s3 : PS := PagerS.useP (cut (PagerS.wroteP s2 1)) ⟨3, [9#8, 9#8], 2⟩
def h3 : HostS.HS := HostS.wrote 1 (PagerS.boxOf s2 1) (HostS.logged h0 1 1 (PagerS.boxOf s2 1))
def s4 : PS := PagerS.useP (cut (PagerS.wroteP s3 2)) ⟨1, [5#8, 6#8], 1⟩
def h4 : HostS.HS := HostS.logged (HostS.wrote 2 (PagerS.boxOf s3 2) (HostS.logged h3 1 2 (PagerS.boxOf s3 2))) 0 1 []
def b0 : Int → List Byte := fun _ => List.replicate 2 0#8
def b1 := HostS.setF b0 1 [5#8, 6#8]
def b2 := HostS.setF b1 2 [7#8, 8#8]
def b3 := HostS.setF b2 3 [9#8, 9#8]
theorem q0 : PagerS.Quiet s0 h0 b0 := PagerS.quiet_fresh (PagerS.ok_fresh rfl (by omega) (by omega) (by omega)) rfl rfl (PagerS.calm_fresh 4 30)
theorem e1 : PagerS.saveP s0 h0 1 [5#8, 6#8] = (0, s1, h0) := rfl
theorem q1 : PagerS.Quiet s1 h0 b1 := (q0.save (n := 1) (t := [5#8, 6#8]) (by decide) (by decide) (by decide) rfl).2
theorem e2 : PagerS.saveP s1 h0 2 [7#8, 8#8] = (0, s2, h0) := rfl
theorem q2 : PagerS.Quiet s2 h0 b2 := (q1.save (n := 2) (t := [7#8, 8#8]) (by decide) (by decide) (by decide) rfl).2
theorem e3 : PagerS.saveP s2 h0 3 [9#8, 9#8] = (0, s3, h3) := by
  have hw := writeP_is q2 (by decide) (n := 1) (by decide)
  have hr : PagerS.roomP s2 h0 = (0, cut (PagerS.wroteP s2 1), h3) := by
    have : PagerS.roomP s2 h0 = (if (PagerS.writeP s2 h0 1).1 = 0 then (0, cut (PagerS.writeP s2 h0 1).2.1, (PagerS.writeP s2 h0 1).2.2) else PagerS.writeP s2 h0 1) := rfl
    rw [this, hw]; rfl
  have : PagerS.saveP s2 h0 3 [9#8, 9#8] = (if (PagerS.roomP s2 h0).1 = 0 then (0, PagerS.useP (PagerS.roomP s2 h0).2.1 ⟨3, [9#8, 9#8], 2⟩, (PagerS.roomP s2 h0).2.2) else PagerS.roomP s2 h0) := rfl
  rw [this, hr]; rfl
theorem q3 : PagerS.Quiet s3 h3 b3 := by
  have := (q2.save (n := 3) (t := [9#8, 9#8]) (by decide) (by decide) (by decide) rfl).2
  rw [e3] at this; exact this
theorem e4 : PagerS.loadP s3 h3 1 = (([5#8, 6#8], 0), s4, h4) := by
  have hw := writeP_is q3 (by decide) (n := 2) (by decide)
  have hr : PagerS.roomP s3 h3 = (0, cut (PagerS.wroteP s3 2), HostS.wrote 2 (PagerS.boxOf s3 2) (HostS.logged h3 1 2 (PagerS.boxOf s3 2))) := by
    have : PagerS.roomP s3 h3 = (if (PagerS.writeP s3 h3 2).1 = 0 then (0, cut (PagerS.writeP s3 h3 2).2.1, (PagerS.writeP s3 h3 2).2.2) else PagerS.writeP s3 h3 2) := rfl
    rw [this, hw]; rfl
  have q4 := (q3.room (by decide)).2
  rw [hr] at q4
  have hf := fetchP_is q4 (n := 1) (by decide) (by decide) (pl := PagerS.nextPl s2 1) rfl
  have : PagerS.loadP s3 h3 1 = (if (PagerS.roomP s3 h3).1 = 0 then PagerS.fetchP (PagerS.roomP s3 h3).2.1 (PagerS.roomP s3 h3).2.2 1 else (([], (PagerS.roomP s3 h3).1), (PagerS.roomP s3 h3).2)) := rfl
  rw [this, hr, if_pos rfl, hf]; rfl
theorem may : HostS.mayBe 4 30 [] := ⟨⟨by decide, by decide, by decide, by decide⟩, rfl⟩
end PlW
attribute [local irreducible] PagerS.saveP PagerS.loadP PlW.s0 PlW.s1 PlW.s2 PlW.s3 PlW.s4 PlW.h0 PlW.h3 PlW.h4
end Go.Sl

/- trystlaw13: PagerSees, walked. -/
set_option maxHeartbeats 4000000
set_option maxRecDepth 10000
set_option linter.unusedVariables false
set_option linter.unusedSimpArgs false
namespace Go.Sl
open Go Go.Proofs
attribute [local irreducible] pt old pur ex all den denOps denS xOps xC cX CX xthen xblk xcut xloop xng retX resX Calls PV Rd Con
attribute [local irreducible] hostA pgA PagerS.loadP PagerS.saveP
attribute [local irreducible] ocells
open PagerS (PS Over)
theorem heads_tok {r : BitVec 64} {pages : Int} {size : Nat} {l : List HostS.Touch} (h : PagerS.Heads r pages size l) (hp : pages ≤ 65536) (hz : size ≤ 4124) : ∀ t ∈ l, TOk t := by
  intro t ht
  obtain ⟨i, hi, rfl⟩ := List.mem_iff_getElem.1 ht
  obtain ⟨h1, h2, h3, h4⟩ := h i hi
  rcases h4 with ⟨e, hh, _⟩|⟨e, hh⟩
  · exact ⟨by omega, by omega, by omega, by rw [hh]; simp⟩
  · exact ⟨by omega, by omega, by omega, by rw [hh]; simp [leB_len]⟩
theorem hi_tok {s : PS} {h : HostS.HS} (hi : PagerS.HI s h) (hk : PagerS.Ok s) : ∀ t ∈ h.log, TOk t := by
  have := hk.p1; have := hk.t1; have := hi.over.size
  exact heads_tok hi.heads hk.p1 (by omega)
section
variable {L : List Asrt} {x : PLifeV}
end
end Go.Sl

/- trysttop: TopPages, walked. -/
set_option maxHeartbeats 4000000
set_option maxRecDepth 10000
set_option linter.unusedVariables false
set_option linter.unusedSimpArgs false
namespace Go.Sl
open Go Go.Proofs
attribute [local irreducible] pt old pur ex all den denOps denS xOps xC cX CX xthen xblk xcut xloop xng retX resX Calls PV Rd Con
attribute [local irreducible] hostA pgA PagerS.loadP PagerS.saveP ocells bcs
open PagerS (PS Over)
/-- What both pagers, and the row, are in the midst. -/
structure TP (key : List Byte) (round : BitVec 64) (pn n wn i : Nat) (ps : List Part) (s t : PS) (h g : HostS.HS) (b : Int → List Byte) : Prop where
  qs : PagerS.Quiet s h b
  qt : PagerS.Quiet t g fun _ => List.replicate n 0#8
  sr : PagerS.SRel s t
  hr : PagerS.HRel h g
  hi : PagerS.HI s h
  wr : s.writes ≤ i
  pot : PagerS.pot s h ≤ i + 1
  pages : s.pages = (pn : Int)
  text : s.text = n
  window : s.window = wn
  len : ps.length = pn
  row : ∀ k (hk : k < ps.length), ps[k].2.2 = b (k : Int)
section
variable {key : List Byte} {round : BitVec 64} {pn n wn i : Nat} {ps : List Part} {s t : PS} {h g : HostS.HS} {b : Int → List Byte}
theorem TP.ops (k : TP key round pn n wn i ps s t h g b) : h.ops ≤ i + 1 := Nat.le_trans (PagerS.pot_ops s h) k.pot
theorem TP.gops (k : TP key round pn n wn i ps s t h g b) : g.ops ≤ i + 1 := by rw [← k.hr.ops]; exact k.ops
theorem TP.load (k : TP key round pn n wn i ps s t h g b) (hi : i ≤ 1048576) {m : Nat} (hm : m < pn) :
    (PagerS.loadP s h m).1 = (b m, 0) ∧ (PagerS.loadP t g m).1 = (List.replicate n 0#8, 0) ∧ TP key round pn n wn (i + 1) ps (PagerS.loadP s h m).2.1 (PagerS.loadP t g m).2.1 (PagerS.loadP s h m).2.2 (PagerS.loadP t g m).2.2 b := by
  have hw := k.wr
  have hw2 : t.writes = s.writes := k.sr.writes.symm
  have hpg := k.pages
  have hpg2 : t.pages = (pn : Int) := by rw [← k.sr.pages]; exact hpg
  obtain ⟨a1, a2⟩ := k.qs.load (by omega) (n := (m : Int)) (by omega) (by omega)
  obtain ⟨b1, b2⟩ := k.qt.load (by omega) (n := (m : Int)) (by omega) (by omega)
  obtain ⟨r1, r2, r3⟩ := PagerS.load_rel2 k.sr k.hr k.qs.sound k.qt.sound (m : Int)
  have nr := PagerS.near_load s h (m : Int)
  have hp := PagerS.pot_load (h := h) k.qs.sound.ok (m : Int)
  have := k.pot
  have := nr.writes
  exact ⟨a1, b1, a2, b2, r2, r3, k.hi.load k.qs.sound.ok _, by omega, by omega, nr.spages.trans hpg, nr.text.trans k.text, nr.window.trans k.window, k.len, k.row⟩
theorem TP.save (k : TP key round pn n wn i ps s t h g b) (hi : i ≤ 1048576) {m : Nat} (hm : m < pn) (a : Option Addr) (c : Nat) {x : List Byte} (hx : x.length = n) :
    (PagerS.saveP s h m x).1 = 0 ∧ (PagerS.saveP t g m (List.replicate n 0#8)).1 = 0 ∧ TP key round pn n wn (i + 1) (ps.set m (a, c, x)) (PagerS.saveP s h m x).2.1 (PagerS.saveP t g m (List.replicate n 0#8)).2.1 (PagerS.saveP s h m x).2.2 (PagerS.saveP t g m (List.replicate n 0#8)).2.2 (HostS.setF b (m : Int) x) := by
  have hw := k.wr
  have hw2 : t.writes = s.writes := k.sr.writes.symm
  have hpg := k.pages
  have htx := k.text
  have hpg2 : t.pages = (pn : Int) := by rw [← k.sr.pages]; exact hpg
  have htx2 : t.text = n := by rw [← k.sr.text]; exact htx
  obtain ⟨a1, a2⟩ := k.qs.save (by omega) (n := (m : Int)) (by omega) (by omega) (t := x) (by omega)
  obtain ⟨b1, b2⟩ := k.qt.save (by omega) (n := (m : Int)) (by omega) (by omega) (t := List.replicate n 0#8) (by simp [htx2])
  have hz : HostS.setF (fun _ : Int => List.replicate n 0#8) (m : Int) (List.replicate n 0#8) = fun _ => List.replicate n 0#8 := by
    funext y; unfold HostS.setF; split <;> rfl
  rw [hz] at b2
  obtain ⟨r1, r2, r3⟩ := PagerS.save_rel k.sr k.hr k.qs.sound.ok k.qt.sound.ok k.qs.sound.over k.qt.sound.over (m : Int) (x := x) (y := List.replicate n 0#8) (by simp [hx])
  have nr := PagerS.near_save s h (m : Int) x
  have hp := PagerS.pot_save (h := h) k.qs.sound.ok (m : Int) x
  have := k.pot
  have := nr.writes
  refine ⟨a1, b1, a2, b2, r2, r3, k.hi.save k.qs.sound.ok _ _, by omega, by omega, nr.spages.trans hpg, nr.text.trans htx, nr.window.trans k.window, by rw [List.length_set]; exact k.len, ?_⟩
  intro j hj
  rw [List.length_set] at hj
  rw [List.getElem_set]
  unfold HostS.setF
  by_cases e : m = j
  · subst e; rw [if_pos rfl, if_pos rfl]
  · rw [if_neg e, if_neg (by omega)]; exact k.row j hj
end
theorem slots_setT (vs : List Value) (m : Nat) (v : Value) : ((vs ++ List.replicate (m + 1) nilV).toArray).setIfInBounds vs.length v = ((vs ++ [v]) ++ List.replicate m nilV).toArray := by
  apply Array.ext'
  simp [List.replicate_succ, List.set_append_right]
structure HoldsIn (L : List Asrt) (sv : Value) (st : List HoldV) : Prop where
  rd : Rd L 3 sv st.length (st.flatMap HoldV.cells)
  el : ∀ o ∈ st, Bs L o.text_V o.text_ ∧ o.text_.length ≤ 140737488351232
theorem hold_len (o : HoldV) : o.cells.length = 3 := rfl
/-- A block of bytes that is a slice as a whole. -/
theorem own_whole {g n : Nat} {l : List Byte} (hl : l.length = n) (hn : n ≤ 4096) {M : List Asrt} : Imp (cl g (l.map u8b).toArray 5 :: M) (ownP (some ⟨g, 0, none⟩, n, l) :: M) := by
  have e : ownP (some ⟨g, 0, none⟩, n, l) = own 5 1 (.slice (some ⟨g, 0, none⟩) n n) n (l.map u8b) := by unfold ownP vP; dsimp only; rw [hl]
  rw [e]
  exact Imp.own_mk (n := n) (cap := n) (size := 1) (xs := l.map u8b) (by omega) (by omega) (by simp [hl]) (by simp; exact List.take_of_length_le (by simp [hl]))
section
variable {L : List Asrt} {key : List Byte} {round : BitVec 64} {k2 : List Byte} {sv : Value} {st : List HoldV}
theorem pagesT_bad (hk : key.length = 32) (hk2 : k2.length = 32) (pages text window : Int) (hb : pages < 1 ∨ 64 < pages ∨ text < 1 ∨ 4096 < text ∨ window < 2 ∨ 16 < window) : Con Tryz.prog 3 [.agg (bcs ⟨key, round, pages, text, window⟩), sv, .agg (k2.map u8b).toArray] L (fun r M => r = .bool true ∧ L = M) := by
  have hlen := bcs_len (round := round) (pages := pages) (text := text) (window := window) hk
  have hone := bcs_one ⟨key, round, pages, text, window⟩
  have c2 := bcs_pages (round := round) (pages := pages) (text := text) (window := window) hk
  have c3 := bcs_text (round := round) (pages := pages) (text := text) (window := window) hk
  have c4 := bcs_window (round := round) (pages := pages) (text := text) (window := window) hk
  by_cases h1 : pages < 1
  · refine fn_x Tryz.func3 rfl rfl rfl Tryz.mixed (by kernel_rfl) ?_
    intro w0
    refine Y1 ?_
    refine Zh5 rfl ?_; intro b3
    refine Zh5 rfl ?_; intro b5
    refine V2 ?_
    refine Zij ((cl b3 (bcs ⟨key, round, pages, text, window⟩) 26 :: cl b5 (k2.map u8b).toArray 23 :: L)) [3] (.q 0 (.q 2 (.r 1 (.q 4 (.r 3 (.q 5 .nil)))))) (by kernel_rfl) (by kernel_rfl) (Imp.arr qV) ?_
    refine W2 ?_
    refine Ziv rfl rfl qH (c2) ?_
    refine W1 ?_
    refine Ziv rfl rfl qH (c3) ?_
    refine W2 ?_
    refine Y2 ?_
    refine Zhg (Zbn (b := 1) rfl rfl) ?_
    refine Zhm 30 rfl (decide_eq_true (h1)) ?_
    refine V27 ?_
    refine rx1 (Zha rfl (Zg7)) ?_
    exact ⟨_, ⟨rfl, rfl⟩, qI⟩
  by_cases h2 : 64 < pages
  · refine fn_x Tryz.func3 rfl rfl rfl Tryz.mixed (by kernel_rfl) ?_
    intro w0
    refine Y1 ?_
    refine Zh5 rfl ?_; intro b3
    refine Zh5 rfl ?_; intro b5
    refine V2 ?_
    refine Zij ((cl b3 (bcs ⟨key, round, pages, text, window⟩) 26 :: cl b5 (k2.map u8b).toArray 23 :: L)) [3] (.q 0 (.q 2 (.r 1 (.q 4 (.r 3 (.q 5 .nil)))))) (by kernel_rfl) (by kernel_rfl) (Imp.arr qV) ?_
    refine W2 ?_
    refine Ziv rfl rfl qH (c2) ?_
    refine W1 ?_
    refine Ziv rfl rfl qH (c3) ?_
    refine W2 ?_
    refine Y2 ?_
    refine Zhg (Zbn (b := 1) rfl rfl) ?_
    refine Zhn 30 rfl (decide_eq_false (h1)) ?_
    refine Y2 ?_
    first|refine Y0 ?_|(refine Zhh rfl ?_; (refine Zhg (Zbp (b := 64) rfl rfl) ?_))
    refine Zhm 33 rfl (decide_eq_true (h2)) ?_
    refine V24 ?_
    refine rx1 (Zha rfl (Zg7)) ?_
    exact ⟨_, ⟨rfl, rfl⟩, qI⟩
  by_cases h3 : text < 1
  · refine fn_x Tryz.func3 rfl rfl rfl Tryz.mixed (by kernel_rfl) ?_
    intro w0
    refine Y1 ?_
    refine Zh5 rfl ?_; intro b3
    refine Zh5 rfl ?_; intro b5
    refine V2 ?_
    refine Zij ((cl b3 (bcs ⟨key, round, pages, text, window⟩) 26 :: cl b5 (k2.map u8b).toArray 23 :: L)) [3] (.q 0 (.q 2 (.r 1 (.q 4 (.r 3 (.q 5 .nil)))))) (by kernel_rfl) (by kernel_rfl) (Imp.arr qV) ?_
    refine W2 ?_
    refine Ziv rfl rfl qH (c2) ?_
    refine W1 ?_
    refine Ziv rfl rfl qH (c3) ?_
    refine W2 ?_
    refine Y2 ?_
    refine Zhg (Zbn (b := 1) rfl rfl) ?_
    refine Zhn 30 rfl (decide_eq_false (h1)) ?_
    refine Y2 ?_
    first|refine Y0 ?_|(refine Zhh rfl ?_; (refine Zhg (Zbp (b := 64) rfl rfl) ?_))
    refine Zhn 33 rfl (decide_eq_false (h2)) ?_
    refine Y3 ?_
    first|refine Y0 ?_|(refine Zhh rfl ?_; (refine Zhg (Zbn (b := 1) rfl rfl) ?_))
    refine Zhm 37 rfl (decide_eq_true (h3)) ?_
    refine V20 ?_
    refine rx1 (Zha rfl (Zg7)) ?_
    exact ⟨_, ⟨rfl, rfl⟩, qI⟩
  by_cases h4 : 4096 < text
  · refine fn_x Tryz.func3 rfl rfl rfl Tryz.mixed (by kernel_rfl) ?_
    intro w0
    refine Y1 ?_
    refine Zh5 rfl ?_; intro b3
    refine Zh5 rfl ?_; intro b5
    refine V2 ?_
    refine Zij ((cl b3 (bcs ⟨key, round, pages, text, window⟩) 26 :: cl b5 (k2.map u8b).toArray 23 :: L)) [3] (.q 0 (.q 2 (.r 1 (.q 4 (.r 3 (.q 5 .nil)))))) (by kernel_rfl) (by kernel_rfl) (Imp.arr qV) ?_
    refine W2 ?_
    refine Ziv rfl rfl qH (c2) ?_
    refine W1 ?_
    refine Ziv rfl rfl qH (c3) ?_
    refine W2 ?_
    refine Y2 ?_
    refine Zhg (Zbn (b := 1) rfl rfl) ?_
    refine Zhn 30 rfl (decide_eq_false (h1)) ?_
    refine Y2 ?_
    first|refine Y0 ?_|(refine Zhh rfl ?_; (refine Zhg (Zbp (b := 64) rfl rfl) ?_))
    refine Zhn 33 rfl (decide_eq_false (h2)) ?_
    refine Y3 ?_
    first|refine Y0 ?_|(refine Zhh rfl ?_; (refine Zhg (Zbn (b := 1) rfl rfl) ?_))
    refine Zhn 37 rfl (decide_eq_false (h3)) ?_
    refine Y3 ?_
    first|refine Y0 ?_|(refine Zhh rfl ?_; (refine Zhg (Zbp (b := 4096) rfl rfl) ?_))
    refine Zhm 41 rfl (decide_eq_true (h4)) ?_
    refine V16 ?_
    refine rx1 (Zha rfl (Zg7)) ?_
    exact ⟨_, ⟨rfl, rfl⟩, qI⟩
  by_cases h5 : window < 2
  · refine fn_x Tryz.func3 rfl rfl rfl Tryz.mixed (by kernel_rfl) ?_
    intro w0
    refine Y1 ?_
    refine Zh5 rfl ?_; intro b3
    refine Zh5 rfl ?_; intro b5
    refine V2 ?_
    refine Zij ((cl b3 (bcs ⟨key, round, pages, text, window⟩) 26 :: cl b5 (k2.map u8b).toArray 23 :: L)) [3] (.q 0 (.q 2 (.r 1 (.q 4 (.r 3 (.q 5 .nil)))))) (by kernel_rfl) (by kernel_rfl) (Imp.arr qV) ?_
    refine W2 ?_
    refine Ziv rfl rfl qH (c2) ?_
    refine W1 ?_
    refine Ziv rfl rfl qH (c3) ?_
    refine W2 ?_
    refine Y2 ?_
    refine Zhg (Zbn (b := 1) rfl rfl) ?_
    refine Zhn 30 rfl (decide_eq_false (h1)) ?_
    refine Y2 ?_
    first|refine Y0 ?_|(refine Zhh rfl ?_; (refine Zhg (Zbp (b := 64) rfl rfl) ?_))
    refine Zhn 33 rfl (decide_eq_false (h2)) ?_
    refine Y3 ?_
    first|refine Y0 ?_|(refine Zhh rfl ?_; (refine Zhg (Zbn (b := 1) rfl rfl) ?_))
    refine Zhn 37 rfl (decide_eq_false (h3)) ?_
    refine Y3 ?_
    first|refine Y0 ?_|(refine Zhh rfl ?_; (refine Zhg (Zbp (b := 4096) rfl rfl) ?_))
    refine Zhn 41 rfl (decide_eq_false (h4)) ?_
    refine Y3 ?_
    first|refine Y0 ?_|(refine Zhh rfl ?_; (refine Zhp rfl qH (c4) ?_))
    first|refine Y0 ?_|(refine Zhh rfl ?_; (refine Zhg (Zbn (b := 2) rfl rfl) ?_))
    refine Zhm 46 rfl (decide_eq_true (h5)) ?_
    refine V11 ?_
    refine rx1 (Zha rfl (Zg7)) ?_
    exact ⟨_, ⟨rfl, rfl⟩, qI⟩
  · have h6 : 16 < window := by omega
    refine fn_x Tryz.func3 rfl rfl rfl Tryz.mixed (by kernel_rfl) ?_
    intro w0
    refine Y1 ?_
    refine Zh5 rfl ?_; intro b3
    refine Zh5 rfl ?_; intro b5
    refine V2 ?_
    refine Zij ((cl b3 (bcs ⟨key, round, pages, text, window⟩) 26 :: cl b5 (k2.map u8b).toArray 23 :: L)) [3] (.q 0 (.q 2 (.r 1 (.q 4 (.r 3 (.q 5 .nil)))))) (by kernel_rfl) (by kernel_rfl) (Imp.arr qV) ?_
    refine W2 ?_
    refine Ziv rfl rfl qH (c2) ?_
    refine W1 ?_
    refine Ziv rfl rfl qH (c3) ?_
    refine W2 ?_
    refine Y2 ?_
    refine Zhg (Zbn (b := 1) rfl rfl) ?_
    refine Zhn 30 rfl (decide_eq_false (h1)) ?_
    refine Y2 ?_
    first|refine Y0 ?_|(refine Zhh rfl ?_; (refine Zhg (Zbp (b := 64) rfl rfl) ?_))
    refine Zhn 33 rfl (decide_eq_false (h2)) ?_
    refine Y3 ?_
    first|refine Y0 ?_|(refine Zhh rfl ?_; (refine Zhg (Zbn (b := 1) rfl rfl) ?_))
    refine Zhn 37 rfl (decide_eq_false (h3)) ?_
    refine Y3 ?_
    first|refine Y0 ?_|(refine Zhh rfl ?_; (refine Zhg (Zbp (b := 4096) rfl rfl) ?_))
    refine Zhn 41 rfl (decide_eq_false (h4)) ?_
    refine Y3 ?_
    first|refine Y0 ?_|(refine Zhh rfl ?_; (refine Zhp rfl qH (c4) ?_))
    first|refine Y0 ?_|(refine Zhh rfl ?_; (refine Zhg (Zbn (b := 2) rfl rfl) ?_))
    refine Zhn 46 rfl (decide_eq_false (h5)) ?_
    refine Y3 ?_
    first|refine Y0 ?_|(refine Zhh rfl ?_; (refine Zhp rfl qH (c4) ?_))
    first|refine Y0 ?_|(refine Zhh rfl ?_; (refine Zhg (Zbp (b := 16) rfl rfl) ?_))
    refine Zhm 51 rfl (decide_eq_true (h6)) ?_
    refine V6 ?_
    refine rx1 (Zha rfl (Zg7)) ?_
    exact ⟨_, ⟨rfl, rfl⟩, qI⟩
end
end Go.Sl

/- trysttop: TopPages of a good book, walked. -/
set_option maxHeartbeats 4000000
set_option maxRecDepth 10000
set_option linter.unusedVariables false
set_option linter.unusedSimpArgs false
namespace Go.Sl
open Go Go.Proofs
attribute [local irreducible] pt old pur ex all den denOps denS xOps xC cX CX xthen xblk xcut xloop xng retX resX Calls PV Rd Con
attribute [local irreducible] hostA pgA PagerS.loadP PagerS.saveP ocells bcs
open PagerS (PS Over)
section
variable {L : List Asrt} {key : List Byte} {round : BitVec 64} {k2 : List Byte} {sv : Value} {st : List HoldV} {pn n wn : Nat}
theorem tmod_in (a : Int) (hpn : 1 ≤ pn) : ∃ m : Nat, m < pn ∧ (a.tmod pn < 0 → a.tmod pn + pn = m) ∧ (¬ a.tmod pn < 0 → a.tmod pn = m) := by
  have h1 := Int.lt_tmod_of_pos a (b := (pn : Int)) (by omega)
  have h2 := Int.tmod_lt_of_pos a (b := (pn : Int)) (by omega)
  by_cases h : a.tmod pn < 0
  · exact ⟨(a.tmod pn + pn).toNat, by omega, fun _ => by omega, fun hh => absurd h hh⟩
  · exact ⟨(a.tmod pn).toNat, by omega, fun hh => absurd hh h, fun _ => by omega⟩
theorem zs_all {ps : List Part} {n : Nat} (h : ∀ p ∈ ps, p.2.2 = List.replicate n 0#8) (k : Nat) (hk : k < ps.length) : ps[k].2.2 = List.replicate n 0#8 := h _ (List.getElem_mem hk)
abbrev TS := Nat × List Part × PS × PS × HostS.HS × HostS.HS × (Int → List Byte)
theorem pagesT_ok (hk : key.length = 32) (hk2 : k2.length = 32) (hpg : 1 ≤ pn ∧ pn ≤ 64) (hn : 1 ≤ n ∧ n ≤ 4096) (hw : 2 ≤ wn ∧ wn ≤ 16) (hst : HoldsIn L sv st) (hup : st.length ≤ 1048576) : Con Tryz.prog 3 [.agg (bcs ⟨key, round, pn, n, wn⟩), sv, .agg (k2.map u8b).toArray] L (fun r M => r = .bool true ∧ L = M) := by
  refine Con.get (fun w0 w F H => hst.rd.len H) ?_
  rintro ⟨sa, sc, rfl⟩
  have hlen := bcs_len (round := round) (pages := (pn : Int)) (text := (n : Int)) (window := (wn : Int)) hk
  have hlen2 := bcs_len (round := round) (pages := (pn : Int)) (text := (n : Int)) (window := (wn : Int)) hk2
  have hone := bcs_one ⟨key, round, pn, n, wn⟩
  have c2 := bcs_pages (round := round) (pages := (pn : Int)) (text := (n : Int)) (window := (wn : Int)) hk
  have c3 := bcs_text (round := round) (pages := (pn : Int)) (text := (n : Int)) (window := (wn : Int)) hk
  have c4 := bcs_window (round := round) (pages := (pn : Int)) (text := (n : Int)) (window := (wn : Int)) hk
  have hh1 := fun L => held_t (L := L) (round := round) hk hpg hn hw
  have hh2 := fun L => held_t (L := L) (round := round) hk2 hpg hn hw
  refine fn_x Tryz.func3 rfl rfl rfl Tryz.mixed (by kernel_rfl) ?_
  intro w0
  refine Y1 ?_
  refine Zh5 rfl ?_; intro b3
  refine Zh5 rfl ?_; intro b5
  refine V2 ?_
  refine Zij ((cl b3 (bcs ⟨key, round, pn, n, wn⟩) 26 :: cl b5 (k2.map u8b).toArray 23 :: L)) [3] (.q 0 (.q 2 (.r 1 (.q 4 (.r 3 (.q 5 .nil)))))) (by kernel_rfl) (by kernel_rfl) (Imp.arr qV) ?_
  refine W2 ?_
  refine Ziv rfl rfl qH (c2) ?_
  refine W1 ?_
  refine Ziv rfl rfl qH (c3) ?_
  refine W2 ?_
  refine Y2 ?_
  refine Zhg (Zbn (b := 1) rfl rfl) ?_
  refine Zhn 30 rfl (decide_eq_false ((by omega))) ?_
  refine Y2 ?_
  first|refine Y0 ?_|(refine Zhh rfl ?_; (refine Zhg (Zbp (b := 64) rfl rfl) ?_))
  refine Zhn 33 rfl (decide_eq_false ((by omega))) ?_
  refine Y3 ?_
  first|refine Y0 ?_|(refine Zhh rfl ?_; (refine Zhg (Zbn (b := 1) rfl rfl) ?_))
  refine Zhn 37 rfl (decide_eq_false ((by omega))) ?_
  refine Y3 ?_
  first|refine Y0 ?_|(refine Zhh rfl ?_; (refine Zhg (Zbp (b := 4096) rfl rfl) ?_))
  refine Zhn 41 rfl (decide_eq_false ((by omega))) ?_
  refine Y3 ?_
  first|refine Y0 ?_|(refine Zhh rfl ?_; (refine Zhp rfl qH (c4) ?_))
  first|refine Y0 ?_|(refine Zhh rfl ?_; (refine Zhg (Zbn (b := 2) rfl rfl) ?_))
  refine Zhn 46 rfl (decide_eq_false ((by omega))) ?_
  refine Y3 ?_
  first|refine Y0 ?_|(refine Zhh rfl ?_; (refine Zhp rfl qH (c4) ?_))
  first|refine Y0 ?_|(refine Zhh rfl ?_; (refine Zhg (Zbp (b := 16) rfl rfl) ?_))
  refine Zhn 51 rfl (decide_eq_false ((by omega))) ?_
  refine Y5 ?_
  refine Zh8 rfl (by kernel_rfl) (hh1 []) rfl qT ?_
  rintro _ _ ⟨ph, p, rfl, rfl⟩
  refine Y11 ?_
  refine Zhz (cs := #[u8b 0#8, u8b 0#8, u8b 0#8, u8b 0#8, u8b 0#8, u8b 0#8, u8b 0#8, u8b 0#8, u8b 0#8, u8b 0#8, u8b 0#8, u8b 0#8, u8b 0#8, u8b 0#8, u8b 0#8, u8b 0#8, u8b 0#8, u8b 0#8, u8b 0#8, u8b 0#8, u8b 0#8, u8b 0#8, u8b 0#8, u8b 0#8, u8b 0#8, u8b 0#8, u8b 0#8, u8b 0#8, u8b 0#8, u8b 0#8, u8b 0#8, u8b 0#8, u64b 0#64, .int .i64 0, .int .i64 0, .int .i64 0]) rfl ?_; intro b12
  first|refine Zhy rfl rfl qR qZ (by first|rfl|exact oneM_u8 _|exact oneL_u8 _|assumption|(simp [oneC]; done)) qZ ?_|refine Zhx rfl rfl qR qZ (by first|rfl|exact oneM_u8 _|exact oneL_u8 _|assumption|(simp [oneC]; done)) qZ rfl ?_
  refine Y4 ?_
  first|refine Zhy rfl rfl qR qZ (by first|rfl|exact oneM_u8 _|exact oneL_u8 _|assumption|(simp [oneC]; done)) qZ ?_|refine Zhx rfl rfl qR qZ (by first|rfl|exact oneM_u8 _|exact oneL_u8 _|assumption|(simp [oneC]; done)) qZ (bcs_withK hk hk2) ?_
  refine Y3 ?_
  refine Zh8 rfl (by kernel_rfl) (hh2 []) rfl qT ?_
  rintro _ _ ⟨gh, q, rfl, rfl⟩
  refine Y11 ?_
  refine Zhg (Zb0 rfl) ?_
  refine Zhn 69 rfl (rfl) ?_
  refine Y2 ?_
  first|refine Y0 ?_|(refine Zhh rfl ?_; (refine Zhg (Zb0 rfl) ?_))
  refine Zhn 72 rfl (rfl) ?_
  refine Y5 ?_
  refine Zm3 (f := fun x : Value => x) (a := nilV) rfl rfl rfl qS qS qS ?_; intro b75
  refine V7 ?_
  refine Zgo [(17, 17), (78, 86)] (by kernel_rfl) (fun z : Nat × List Part => z.1 ≤ pn ∧ z.2.length = z.1 ∧ ∀ x ∈ z.2, x.2.2 = List.replicate n 0#8)
    (fun z => cl b75 (z.2.map vP ++ List.replicate (pn - z.1) nilV).toArray 33 :: star ownP z.2 :: pgA p ph (psT key round wn pn n) :: hostA ph (hsT pn n) :: pgA q gh (psT k2 round wn pn n) :: hostA gh (hsT pn n) :: cl b3 (bcs ⟨key, round, pn, n, wn⟩) 26 :: L) (fun z => [(78, nvv z.1)]) (fun z => pn - z.1) (0, []) ⟨Nat.zero_le _, rfl, fun x hx => (by cases hx)⟩ ?_ ⟨rfl, trivial⟩ ?_
  · refine Imp.trans (Imp.arr (N := cl b75 ((List.replicate pn nilV).map fun x => x).toArray 33 :: pgA p ph (psT key round wn pn n) :: hostA ph (hsT pn n) :: pgA q gh (psT k2 round wn pn n) :: hostA gh (hsT pn n) :: cl b3 (bcs ⟨key, round, pn, n, wn⟩) 26 :: L) qV) ?_
    rw [List.map_id']
    exact Imp.cons star_nil
  rintro ⟨i, ps⟩ u ⟨hi, hpl, hpz⟩
  dsimp only at hi hpl hpz ⊢
  refine V3 ?_
  refine Zgg rfl (fun hB => ?_) (fun hB => ?_)
  · have hrep : pn - i = (pn - (i + 1)) + 1 := by omega
    rw [hrep]
    have hset : ∀ u : Value, ((ps.map vP ++ List.replicate ((pn - (i + 1)) + 1) nilV).toArray).setIfInBounds i u = ((ps.map vP ++ [u]) ++ List.replicate (pn - (i + 1)) nilV).toArray := fun u => by
      have := slots_setT (ps.map vP) (pn - (i + 1)) u
      rwa [List.length_map, hpl] at this
    have hsz : ((ps.map vP ++ List.replicate ((pn - (i + 1)) + 1) nilV).toArray).size = pn := by simp [hpl]; omega
    refine Y8 ?_
    refine Zm3 (f := u8b) (a := 0#8) rfl rfl rfl qS qS qS ?_; intro b84
    refine Y1 ?_
    refine Zhw rfl rfl qR qZ (hset _) ?_
    refine V5 ?_
    refine Zgl (i + 1, ps ++ [(some ⟨b84, 0, none⟩, n, List.replicate n 0#8)]) qO ⟨by dsimp only; omega, by simp [hpl], ?_⟩ ?_ ⟨rfl, trivial⟩
    · intro x hx
      rcases List.mem_append.1 hx with hx|hx
      · exact hpz x hx
      · obtain rfl := List.mem_singleton.1 hx; rfl
    · dsimp only
      rw [show (ps ++ [((some ⟨b84, 0, none⟩, n, List.replicate n 0#8) : Part)]).map vP = ps.map vP ++ [.slice (some ⟨b84, 0, none⟩) n n] by rw [List.map_append]; simp [vP]]
      exact (Imp.arr (N := cl b84 ((List.replicate n 0#8).map u8b).toArray 5 :: star ownP ps :: cl b75 (ps.map vP ++ [Value.slice (some ⟨b84, 0, none⟩) n n] ++ List.replicate (pn - (i + 1)) nilV).toArray 33 :: pgA p ph (psT key round wn pn n) :: hostA ph (hsT pn n) :: pgA q gh (psT k2 round wn pn n) :: hostA gh (hsT pn n) :: cl b3 (bcs ⟨key, round, pn, n, wn⟩) 26 :: L) qV).trans ((own_whole (by simp) hn.2).trans (star_snoc.trans (Imp.arr qV)))
  have hie : i = pn := by omega
  subst hie
  rw [Nat.sub_self, List.replicate_zero, List.append_nil]
  have m1 : PagerS.Ok (psT key round wn i n) := PagerS.ok_fresh hk (by omega) (by omega) (by omega)
  have m2 : PagerS.Ok (psT k2 round wn i n) := PagerS.ok_fresh hk2 (by omega) (by omega) (by omega)
  have htp : TP key round i n wn 0 ps (psT key round wn i n) (psT k2 round wn i n) (hsT i n) (hsT i n) (fun _ => List.replicate n 0#8) :=
    ⟨PagerS.quiet_fresh m1 rfl rfl (PagerS.calm_fresh _ _), PagerS.quiet_fresh m2 rfl rfl (PagerS.calm_fresh _ _), ⟨rfl, rfl, rfl, rfl, rfl, rfl, rfl, rfl, rfl⟩, ⟨rfl, rfl, rfl, rfl, rfl, fun _ => ⟨rfl, rfl⟩⟩, PagerS.hi_fresh rfl ⟨rfl, rfl⟩, Nat.le_refl _, Nat.le_refl _, rfl, rfl, rfl, hpl, fun k hk => zs_all hpz k hk⟩
  clear hpz hpl m1 m2
  generalize psT key round wn i n = s0 at *
  generalize psT k2 round wn i n = t0 at *
  generalize hsT i n = h0 at *
  refine V5 ?_
  refine Zgo [(6, 6), (19, 24), (89, 173)] (by kernel_rfl) (fun z : TS => z.1 ≤ st.length ∧ TP key round i n wn z.1 z.2.1 z.2.2.1 z.2.2.2.1 z.2.2.2.2.1 z.2.2.2.2.2.1 z.2.2.2.2.2.2)
    (fun z => cl b75 (z.2.1.map vP).toArray 33 :: star ownP z.2.1 :: pgA p ph z.2.2.1 :: hostA ph z.2.2.2.2.1 :: pgA q gh z.2.2.2.1 :: hostA gh z.2.2.2.2.2.1 :: cl b3 (bcs ⟨key, round, i, n, wn⟩) 26 :: L) (fun z => [(89, nvv z.1)]) (fun z => st.length - z.1) (0, ps, s0, t0, h0, h0, fun _ => List.replicate n 0#8) ⟨Nat.zero_le _, htp⟩ qI ⟨rfl, trivial⟩ ?_
  clear htp
  rintro ⟨j, ps, s, t, h, g, b⟩ u ⟨hj, htp⟩
  dsimp only at hj htp ⊢
  have hop := htp.ops
  have hgop := htp.gops
  have hps := htp.len
  refine V3 ?_
  refine Zgg rfl (fun hB => ?_) (fun hB => ?_)
  · refine Zgt (fun F w H => (hst.rd.imp (Imp.arr (M := _) qV)).someAt (by omega) H) ?_
    rintro ⟨b1, o1, rfl⟩
    obtain ⟨hel, hell⟩ := hst.el _ (List.getElem_mem hB)
    refine Zgt (fun F w H => (hel.imp (Imp.arr (M := _) qV)).sh _ _ _ H) ?_
    rintro ⟨ta, tc, htv, htc, htcm⟩
    have hone2 : st[j].cells.toArray.toList.all oneC = true := by simp [HoldV.cells, oneC, htv]
    obtain ⟨m, hm, hm1, hm2⟩ := tmod_in (pn := i) st[j].page_ hpg.1
    have hcell : (st[j].cells.toArray)[2]? = some (.slice ta st[j].text_.length tc) := by rw [← htv]; rfl
    refine Y2 ?_
    refine Zfg rfl ((hst.rd.imp qI).agN hold_len (by omega) hB) ?_
    refine Zhz (cs := #[.bool false, .int .i64 0, .slice none 0 0]) rfl ?_; intro b19
    first|refine Zhy rfl rfl qR qZ (by first|rfl|exact oneM_u8 _|exact oneL_u8 _|assumption|(simp [oneC]; done)) qZ ?_|refine Zhx rfl rfl qR qZ (by first|rfl|exact oneM_u8 _|exact oneL_u8 _|assumption|(simp [oneC]; done)) qZ rfl ?_
    refine Y5 ?_
    refine Zhg (Zbk (a := st[j].page_) (b := (i : Int)) rfl rfl (by omega)) ?_
    refine Y4 ?_
    refine Zhg (Zbn (a := st[j].page_.tmod i) (b := 0) rfl rfl) ?_
    refine V1 ?_
    refine Zgn [(20, 20), (99, 101)] (by kernel_rfl) (fun _ : Unit => True) (fun _ => cl b19 st[j].cells.toArray 35 :: cl b75 (ps.map vP).toArray 33 :: star ownP ps :: pgA p ph s :: hostA ph h :: pgA q gh t :: hostA gh g :: cl b3 (bcs ⟨key, round, i, n, wn⟩) 26 :: L) (fun _ => [(20, nvv m)]) ?_ ?_
    · refine Zgg rfl (fun hB2 => ?_) (fun hB2 => ?_)
      · refine Y3 ?_
        refine Zhg (Zbg (a := st[j].page_.tmod i) (b := (i : Int)) rfl rfl (by have := hm1 hB2; omega)) ?_
        refine V2 ?_
        rw [hm1 hB2]
        exact Zgk () trivial qI ⟨rfl, trivial⟩
      · refine Ct.o ?_
        exact Zgk () trivial qI ⟨by rw [hm2 hB2]; rfl, trivial⟩
    rintro - u2 -
    have hrow : ∀ (ps : List Part) (hl : m < ps.length), ((ps.map vP).toArray)[m]? = some (vP ps[m]) := fun ps hl => by rw [List.getElem?_toArray]; exact getM (f := vP) hl
    refine Zgt (fun F w H => pg_ok (p := p) (ph := ph) (s := s) qH H) ?_
    intro hk1
    have hov := htp.qs.sound.over
    have hov2 := htp.qt.sound.over
    have hmp : m < ps.length := by omega
    refine Y4 ?_
    repeat (first|refine zA ?_|refine zB ?_|refine zD ?_|refine zE ?_|refine zF ?_|refine zG ?_|refine zH ?_|refine zI ?_|refine zJ ?_|refine zK ?_|refine zL ?_|refine zM rfl ?_|refine zN ?_|refine zO ?_|refine zP ?_|refine zQ ?_)
    refine Zgn [(6, 6), (21, 24), (104, 154)] (by kernel_rfl) (fun z : List Part × PS × PS × HostS.HS × HostS.HS × (Int → List Byte) => TP key round i n wn (j + 1) z.1 z.2.1 z.2.2.1 z.2.2.2.1 z.2.2.2.2.1 z.2.2.2.2.2) (fun z => cl b75 (z.1.map vP).toArray 33 :: star ownP z.1 :: pgA p ph z.2.1 :: hostA ph z.2.2.2.1 :: pgA q gh z.2.2.1 :: hostA gh z.2.2.2.2.1 :: cl b3 (bcs ⟨key, round, i, n, wn⟩) 26 :: L) (fun _ => []) ?_ ?_
    · by_cases hsv : st[j].save_ = true
      · refine Zge (by show Value.bool st[j].save_ = _; rw [hsv]) ?_
        refine Ct.o ?_
        have hfl := fitB_len st[j].text_ n
        have hrf := refit_x (L := L) hel n hn.2
        rw [htv] at hrf
        have hszr : (ps.map vP).toArray.size = i := by simp [hps]
        have hset : ∀ gr : Nat, ((ps.map vP).toArray).setIfInBounds m (.slice (some ⟨gr, 0, none⟩) n n) = ((ps.set m (some ⟨gr, 0, none⟩, n, fitB st[j].text_ n)).map vP).toArray := fun gr => by
          apply Array.ext'
          rw [Array.toList_setIfInBounds, List.map_set]
          show _ = (ps.map vP).set m (.slice (some ⟨gr, 0, none⟩) (fitB st[j].text_ n).length n)
          rw [hfl]
        refine Y4 ?_
        refine Zhp rfl qH (hcell) ?_
        refine Y1 ?_
        refine Zh8 rfl (by kernel_rfl) (hrf) rfl qT ?_
        rintro _ _ ⟨gr, rfl, rfl⟩
        refine Y2 ?_
        refine Zhw rfl rfl qR qZ (hset gr) ?_
        refine V1 ?_
        obtain ⟨a1, a2, a3⟩ := htp.save (by omega) hm (some ⟨gr, 0, none⟩) n hfl
        have hst2 : ∀ {M : List Asrt}, Imp (cl gr ((fitB st[j].text_ n).map u8b).toArray 5 :: star ownP ps :: M) (star ownP (ps.set m (some ⟨gr, 0, none⟩, n, fitB st[j].text_ n)) :: M) :=
          fun {M} => ((Imp.cons ((star_at hmp).trans Imp.tail)).trans (own_whole hfl hn.2)).trans (star_back (A := ownP) hmp (some ⟨gr, 0, none⟩, n, fitB st[j].text_ n))
        have hml : m < (ps.set m (some ⟨gr, 0, none⟩, n, fitB st[j].text_ n)).length := by rw [List.length_set]; exact hmp
        have hvm : (ps.set m (some ⟨gr, 0, none⟩, n, fitB st[j].text_ n))[m] = ((some ⟨gr, 0, none⟩, n, fitB st[j].text_ n) : Part) := by rw [List.getElem_set]; simp
        have hr2 := hrow _ hml
        rw [hvm, show vP ((some ⟨gr, 0, none⟩, n, fitB st[j].text_ n) : Part) = .slice (some ⟨gr, 0, none⟩) n n by unfold vP; dsimp only; rw [hfl]] at hr2
        have hmem : ((some ⟨gr, 0, none⟩, n, fitB st[j].text_ n) : Part) ∈ ps.set m (some ⟨gr, 0, none⟩, n, fitB st[j].text_ n) := by
          have := List.getElem_mem hml
          rwa [hvm] at this
        have hbsx : Bs [star ownP (ps.set m (some ⟨gr, 0, none⟩, n, fitB st[j].text_ n))] (.slice (some ⟨gr, 0, none⟩) n n) (fitB st[j].text_ n) := by
          have := star_bs (A := ownP) (x := ((some ⟨gr, 0, none⟩, n, fitB st[j].text_ n) : Part)) hmem (fun R => ownP_bs .here) (M := [star ownP (ps.set m (some ⟨gr, 0, none⟩, n, fitB st[j].text_ n))]) .here
          rwa [show vP ((some ⟨gr, 0, none⟩, n, fitB st[j].text_ n) : Part) = .slice (some ⟨gr, 0, none⟩) n n by unfold vP; dsimp only; rw [hfl]] at this
        generalize hX : fitB st[j].text_ n = X at *
        generalize hps2 : ps.set m (some ⟨gr, 0, none⟩, n, X) = ps2 at *
        have hcp := copied_x hbsx (by omega)
        have hs1 := fun ca cc => save_x (p := p) (ph := ph) (L := [ownB ca cc X]) hov (by omega) (m : Int) (Bs.own .here)
        have hs2 := fun bz => save_x (p := q) (ph := gh) (L := [cl bz ((List.replicate n 0#8).map u8b).toArray 5]) hov2 (by omega) (m : Int) (bs_full (l := List.replicate n 0#8) (n := n) .here (by simp) (by omega))
        rw [a1] at hs1
        rw [a2] at hs2
        generalize (PagerS.saveP s h m X).2.1 = s1 at *
        generalize (PagerS.saveP s h m X).2.2 = h1 at *
        generalize (PagerS.saveP t g m (List.replicate n 0#8)).2.1 = t1 at *
        generalize (PagerS.saveP t g m (List.replicate n 0#8)).2.2 = g1 at *
        refine Zgp ((Imp.arr (N := cl gr (X.map u8b).toArray 5 :: star ownP ps :: cl b75 (ps2.map vP).toArray 33 :: pgA p ph s :: hostA ph h :: pgA q gh t :: hostA gh g :: cl b3 (bcs ⟨key, round, i, n, wn⟩) 26 :: L) qV).trans hst2) ?_
        refine Y6 ?_
        refine Zhp rfl qH (hr2) ?_
        refine Zh8 rfl (by kernel_rfl) (hcp) rfl qT ?_
        rintro _ _ ⟨ca, cc, rfl, rfl⟩
        refine Y1 ?_
        refine Zh8 rfl (by kernel_rfl) (hs1 ca cc) rfl qT ?_
        rintro _ _ ⟨rfl, rfl⟩
        refine Y1 ?_
        refine Zhg (Zbs (a := (0 : Int)) (b := 0) rfl rfl) ?_
        refine Zhn 119 rfl (decide_eq_false ((fun hh => hh rfl))) ?_
        refine Y4 ?_
        first|refine Y0 ?_|(refine Zhh rfl ?_; (refine Zm3 (f := u8b) (a := 0#8) rfl rfl rfl qS qS qS ?_; intro b124))
        first|refine Y0 ?_|(refine Zhh rfl ?_; (refine Zh8 rfl (by kernel_rfl) (hs2 b124) rfl qT ?_); (rintro _ _ ⟨rfl, rfl⟩); (refine Zg2 qA ?_))
        first|refine Y0 ?_|(refine Zhh rfl ?_; (refine Zhg (Zbs (a := (0 : Int)) (b := 0) rfl rfl) ?_))
        refine Zhn 126 rfl (decide_eq_false ((fun hh => hh rfl))) ?_
        refine V3 ?_
        exact Zgk (ps2, s1, t1, h1, g1, HostS.setF b (m : Int) X) a3 qI trivial
      · refine Zgf (by show Value.bool st[j].save_ = _; rw [show st[j].save_ = false by simpa using hsv]) ?_
        refine Ct.o ?_
        obtain ⟨a1, a2, a3⟩ := htp.load (by omega) hm
        have hl1 := load_x (p := p) (ph := ph) hov (by omega) (m : Int)
        have hl2 := load_x (p := q) (ph := gh) hov2 (by omega) (m : Int)
        rw [a1] at hl1
        rw [a2] at hl2
        have hrw := htp.row m hmp
        have hr2 := hrow ps hmp
        have hbsx : Bs [star ownP ps] (vP ps[m]) ps[m].2.2 := star_bs (A := ownP) (List.getElem_mem hmp) (fun R => ownP_bs .here) .here
        have hsm := fun la lc => same_t (L := [ownB la lc (b (m : Int)), star ownP ps]) (Bs.own .here) (hbsx.imp Imp.tail) hrw.symm
        dsimp only at hl1 hl2
        generalize (PagerS.loadP s h m).2.1 = s1 at *
        generalize (PagerS.loadP s h m).2.2 = h1 at *
        generalize (PagerS.loadP t g m).2.1 = t1 at *
        generalize (PagerS.loadP t g m).2.2 = g1 at *
        refine Y3 ?_
        refine Zh8 rfl (by kernel_rfl) (hl1) rfl qT ?_
        rintro _ _ ⟨la, lc, rfl, rfl⟩
        refine Y10 ?_
        refine Zh8 rfl (by kernel_rfl) (hl2) rfl qT ?_
        rintro _ _ ⟨la2, lc2, rfl, rfl⟩
        refine Y9 ?_
        refine Zhg (Zbs (a := (0 : Int)) (b := 0) rfl rfl) ?_
        refine Zhn 141 rfl (decide_eq_false ((fun hh => hh rfl))) ?_
        refine Y2 ?_
        first|refine Y0 ?_|(refine Zhh rfl ?_; (refine Zhg (Zbs (a := (0 : Int)) (b := 0) rfl rfl) ?_))
        refine Zhn 144 rfl (decide_eq_false ((fun hh => hh rfl))) ?_
        refine Y6 ?_
        first|refine Y0 ?_|(refine Zhh rfl ?_; (refine Zhp rfl qH (hr2) ?_))
        first|refine Y0 ?_|(refine Zhh rfl ?_; (refine Zh8 rfl (by kernel_rfl) (hsm la lc) rfl qT ?_); (rintro _ _ ⟨rfl, rfl⟩); (refine Zg2 qA ?_))
        first|refine Y0 ?_|(refine Zhh rfl ?_; (refine Zhg (Zb0 rfl) ?_))
        refine Zhn 153 rfl (rfl) ?_
        refine V3 ?_
        exact Zgk (ps, s1, t1, h1, g1, b) a3 qI trivial
    clear htp hop hgop hps hrow hk1 hov hov2 hmp
    rintro ⟨ps, s, t, h, g, b⟩ u3 htp
    dsimp only at htp ⊢
    refine Zgt (fun F w H => pg_ok (p := p) (ph := ph) (s := s) qH H) ?_
    intro hk1
    have hnl : (PagerS.numbers s).length ≤ wn := by
      have := hk1.many; have := htp.window
      unfold PagerS.numbers; rw [List.length_map]; omega
    have hmo : s.most ≤ wn := by have := hk1.most; have := htp.window; omega
    have her := htp.qs.err
    refine Ct.o ?_
    refine Zij ([cl b3 (bcs ⟨key, round, i, n, wn⟩) 26]) [1, 2, 8] (.q 0 (.q 3 (.r 4 (.e 1 true (.r 2 (.q 5 (.q 6 (.q 7 (.q 9 (.r 10 (.e 8 true (.q 11 (.q 12 (.q 13 (.q 14 (.e 15 false (.q 16 (.q 17 .nil)))))))))))))))))) (by kernel_rfl) (by kernel_rfl) (Imp.arr qV) ?_
    refine W2 ?_
    refine Ziv rfl rfl qH (c4) ?_
    refine Ziq rfl ?_
    refine Zh8 rfl (by kernel_rfl) (held_x (p := p) (ph := ph)) rfl qT ?_
    rintro _ _ ⟨ha, hc, rfl, rfl⟩
    refine Y1 ?_
    refine Zg3 ⟨fun _ => Imp.arr qV, ?_⟩
    refine W1 ?_
    refine Zim rfl (Zbp (a := ((PagerS.numbers s).length : Int)) (b := (wn : Int)) rfl rfl) ?_
    refine Zi6 160 rfl (decide_eq_false ((by omega))) ?_
    refine W3 ?_
    first|refine Zi1 rfl rfl ?_|refine Zi2 rfl rfl ?_|refine Ziw rfl rfl rfl qH (c4) ?_
    refine Ziq rfl ?_
    first|refine Y0 ?_|(refine Zhh rfl ?_; (refine Zh8 rfl (by kernel_rfl) (most_p (p := p) (ph := ph)) rfl qT ?_); (rintro _ _ ⟨rfl, rfl⟩); (refine Zg2 qA ?_))
    refine Zg3 ⟨fun _ => Imp.arr qV, ?_⟩
    first|refine Zio rfl rfl ?_|refine Zip rfl rfl ?_|refine Zin rfl rfl (Zbp (a := (s.most : Int)) (b := (wn : Int)) rfl rfl) ?_
    refine Zi6 166 rfl (decide_eq_false ((by omega))) ?_
    refine W3 ?_
    refine Ziq rfl ?_
    first|refine Y0 ?_|(refine Zhh rfl ?_; (refine Zh8 rfl (by kernel_rfl) (err_p (p := p) (ph := ph)) rfl qT ?_); (rintro _ _ ⟨rfl, rfl⟩); (refine Zg2 qA ?_))
    refine Zg3 ⟨(fun hh => Bool.noConfusion hh), ?_⟩
    first|refine Zio rfl rfl ?_|refine Zip rfl rfl ?_|refine Zin rfl rfl (Zmk (a := s.err) (b := 0) rfl rfl) ?_
    refine Zi6 171 rfl (decide_eq_false ((fun hh => hh her))) ?_
    refine W2 ?_
    refine V5 ?_
    exact Zgl (j + 1, ps, s, t, h, g, b) qO ⟨by dsimp only; omega, htp⟩ qI ⟨rfl, trivial⟩
  · refine Zgt (fun F w H => pg_ok (p := p) (ph := ph) (s := s) qH H) ?_
    intro hk1
    refine Zgt (fun F w H => host_ok (p := ph) (s := h) qH H) ?_
    intro hho
    have hll := hho.log
    obtain ⟨ol, hol2⟩ := sub_of (hi_tok htp.hi hk1)
    have hoc : h.log.flatMap tcells = ol.flatMap ocells := by rw [hol2, List.flatMap_map]; with_unfolding_all rfl
    have holl : h.log.length = ol.length := by rw [hol2, List.length_map]
    have hnow := htp.hi.now htp.qs.err
    have hwr := htp.wr
    have hw32 : (BitVec.ofNat 32 s.writes).toNat = PagerS.wrs (ol.map (·.1)) := by rw [← hol2, hnow, BitVec.toNat_ofNat]; omega
    have hlg : h.log = g.log := htp.hr.log
    have hheads := htp.hi.heads
    have hun : ∀ k, ∀ hk : k < ol.length, ol[k].1.op = 1 → ol[k].1.head ∉ whs ((ol.take k).map (·.1)) := by
      intro k hk ho
      have hk2 : k < h.log.length := by omega
      have e : h.log[k] = ol[k].1 := by
        have : (h.log)[k]? = (ol.map (·.1))[k]? := by rw [← hol2]
        rw [List.getElem?_map, List.getElem?_eq_getElem hk2, List.getElem?_eq_getElem hk] at this
        exact Option.some.inj this
      have := heads_unlike hheads (by omega) k hk2 (by rw [e]; exact ho)
      rw [e] at this
      rwa [hol2, ← List.map_take] at this
    have hg1 := fun l1 c1 => unlike_t (L := [ownLog l1 c1 h.log]) (a := ol) (by rw [← holl, ← hoc]; exact Rd.own .here) (by omega) hun
    have hg2 := fun l1 c1 => count_t (L := [ownLog l1 c1 h.log]) (a := ol) (by rw [← holl, ← hoc]; exact Rd.own .here) (by omega)
    have hg3 := fun l1 c1 l2 c2 => sameLogs_t (L := [ownLog l1 c1 h.log, ownLog l2 c2 g.log]) (a := ol) (b := ol) (by rw [← holl, ← hoc]; exact Rd.own .here) (by rw [← holl, ← hoc, hlg]; exact Rd.own (.there .here)) (by omega) rfl
    have hlx := log_x (p := ph) (s := h) (by omega)
    have hlx2 := log_x (p := gh) (s := g) (by omega)
    refine Y2 ?_
    refine Zh8 rfl (by kernel_rfl) (hlx) rfl qT ?_
    rintro _ _ ⟨l1, c1, rfl, rfl⟩
    refine Y1 ?_
    refine Zh8 rfl (by kernel_rfl) (hg1 l1 c1) rfl qT ?_
    rintro _ _ ⟨rfl, rfl⟩
    refine Y3 ?_
    first|refine Y0 ?_|(refine Zhh rfl ?_; (refine Zh8 rfl (by kernel_rfl) (writes_p (p := p) (ph := ph)) rfl qT ?_); (rintro _ _ ⟨rfl, rfl⟩); (refine Zg2 qA ?_))
    first|refine Y0 ?_|(refine Zhh rfl ?_; (refine Zhg (Zk7 rfl) ?_))
    refine Y1 ?_
    first|refine Y0 ?_|(refine Zhh rfl ?_; (refine Zh8 rfl (by kernel_rfl) (hlx) rfl qT ?_); (rintro _ _ ⟨l2, c2, rfl, rfl⟩); (refine Zg2 qA ?_))
    first|refine Y0 ?_|(refine Zhh rfl ?_; (refine Zh8 rfl (by kernel_rfl) (hg2 l2 c2) rfl qT ?_); (rintro _ _ ⟨rfl, rfl⟩); (refine Zg2 qA ?_))
    first|refine Y0 ?_|(refine Zhh rfl ?_; (refine Zhg (Zmj (a := (BitVec.ofNat 32 s.writes).toNat) (b := PagerS.wrs (ol.map (·.1))) rfl rfl) ?_))
    refine Zhm 184 rfl (decide_eq_true (hw32)) ?_
    refine Y3 ?_
    first|refine Y0 ?_|(refine Zhh rfl ?_; (refine Zh8 rfl (by kernel_rfl) (hlx) rfl qT ?_); (rintro _ _ ⟨l3, c3, rfl, rfl⟩); (refine Zg2 qA ?_))
    refine Y1 ?_
    first|refine Y0 ?_|(refine Zhh rfl ?_; (refine Zh8 rfl (by kernel_rfl) (hlx2) rfl qT ?_); (rintro _ _ ⟨l4, c4, rfl, rfl⟩); (refine Zg2 qA ?_))
    first|refine Y0 ?_|(refine Zhh rfl ?_; (refine Zh8 rfl (by kernel_rfl) (hg3 l3 c3 l4 c4) rfl qT ?_); (rintro _ _ ⟨rfl, rfl⟩); (refine Zg2 qA ?_))
    refine V3 ?_
    refine rx1 (Zha rfl (Zg7)) ?_
    exact ⟨_, ⟨rfl, rfl⟩, qI⟩
end
end Go.Sl

/- trystlaw13: lives that come in. -/
set_option maxHeartbeats 4000000
set_option maxRecDepth 10000
set_option linter.unusedVariables false
set_option linter.unusedSimpArgs false
namespace Go.Sl
open Go Go.Proofs
attribute [local irreducible] pt old pur ex all den denOps denS xOps xC cX CX xthen xblk xcut xloop xng retX resX Calls PV Rd Con
open PagerS (PS Over)
end Go.Sl

/- trystlaw13: what a life's bulk tells of its script. -/
set_option linter.unusedVariables false
set_option linter.unusedSimpArgs false
namespace Go.Sl
open Go Go.Proofs Go.ChangeShapes Go.WideShapes Go.ChangeAt Go.RowKit
section
variable {H : Type} {enc : TypeId × Value → H} {P : Program} {w : World} {base : Nat} {spare : Nat → Bool} {held : Bool}
/-- A slice that comes in is not longer than its bulk. -/
theorem bulk_slice {t e fuel len cap : Nat} {a : Option Addr} {x : DataW H × List MemPlace} (ht : P.underlying t = some (.slice e)) (h : DataW.trod enc P w base spare held fuel t [.slice a len cap] = some x) : len ≤ YthodgeekgpkieaaGreat.Rows.uptoBulk x.1 := by
  rcases DataW.trod_slice ht h with ⟨hv, hx⟩|⟨a', len', cap', elems, rest, n, _, hv, hx, _, _, _, hlen, _⟩
  · simp only [List.cons.injEq, Value.slice.injEq, and_true] at hv
    omega
  · simp only [List.cons.injEq, Value.slice.injEq, and_true] at hv
    obtain ⟨_, hl, _⟩ := hv
    rw [hx]
    have := bulk_len (elems.map (·.1))
    simp only [YthodgeekgpkieaaGreat.Rows.uptoBulk]
    simp at this
    omega
end
end Go.Sl

/- trysttop: TopPages over books and steps that come in, of a bounded bulk. -/
set_option linter.unusedVariables false
set_option linter.unusedSimpArgs false
namespace Go.Sl
open Go Go.Proofs Go.ChangeShapes Go.WideShapes Go.ChangeAt Go.RowKit
theorem holdsIn_of {W : World} {v : Value} {l : List HoldV} (h : InHoldV W v l) : HoldsIn [old W] v l := ⟨Rd.old .here h.sl, fun o ho => ⟨(h.el o ho).text_.bs .here, (h.el o ho).text_.len⟩⟩
section
variable {H : Type} {enc : TypeId × Value → H} {w : World} {base : Nat} {spare : Nat → Bool} {held : Bool}
theorem opensB_HoldV {n : Nat} {cs : List Value} {y : DataW H × List MemPlace} (h : DataW.trod enc Tryz.prog w base spare held n 27 cs = some y) (hs : Small Tryz.prog 27 y.1) : ∃ (v : Value) (l : List HoldV), cs = [v] ∧ InHoldV w v l ∧ l.length ≤ YthodgeekgpkieaaGreat.Rows.uptoBulk y.1 := by
  obtain ⟨v, l, h1, h2⟩ := opens_HoldV h hs
  obtain ⟨a, c, hv, _⟩ := h2.sh
  refine ⟨v, l, h1, h2, ?_⟩
  rw [h1, hv] at h
  exact bulk_slice Tryz.underlying27 h
end
theorem pagesT_w (W : World) (x : BookV) (ok : BookVOk W x) (v : Value) (l : List HoldV) (hin : InHoldV W v l) (k2 : List Byte) (hk2 : k2.length = 32) (hup : l.length ≤ 1048576) : Con Tryz.prog 3 [.agg x.cells.toArray, v, .agg (k2.map u8b).toArray] [old W] (fun r M => r = .bool true ∧ [old W] = M) := by
  have hk := ok.key_
  obtain ⟨key, round, pages, text, window⟩ := x
  by_cases hg : pages < 1 ∨ 64 < pages ∨ text < 1 ∨ 4096 < text ∨ window < 2 ∨ 16 < window
  · exact pagesT_bad hk hk2 pages text window hg
  · obtain ⟨pn, rfl⟩ : ∃ n : Nat, pages = n := ⟨pages.toNat, by omega⟩
    obtain ⟨n, rfl⟩ : ∃ n : Nat, text = n := ⟨text.toNat, by omega⟩
    obtain ⟨wn, rfl⟩ : ∃ n : Nat, window = n := ⟨window.toNat, by omega⟩
    exact pagesT_ok hk hk2 (by omega) (by omega) (by omega) (holdsIn_of hin) hup
end Go.Sl
