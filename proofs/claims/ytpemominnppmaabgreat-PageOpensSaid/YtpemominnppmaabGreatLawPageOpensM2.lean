/- Parts of the proof, joined: StrA, EngAa, PgA, TagA, TagS, SealS, PgS, StrB, StrC, PgB, PgC, TagB, TagC, TagD, SealA, SealB, SealC, PgD. -/
import Derived.Test.YtpemominnppmaabGreatLawPageOpensM0
import Derived.Test.YtpemominnppmaabGreatLawPageOpensM1
import Derived.Stop.Asserts
import Derived.Stop.IfaceNil
import Derived.Lib.IfaceEq
import Derived.Laws.Externs
import Derived.Lib.Mul64
/- stream: the quarter round, words, the state, two rounds, walked. -/
set_option maxHeartbeats 4000000
set_option maxRecDepth 10000
set_option linter.unusedVariables false
set_option linter.unusedSimpArgs false
namespace Go.Sl
open Go Go.Proofs
attribute [local irreducible] cl pt own old pur ex all den denOps denS xOps xC cX CX xthen xblk xcut xloop xgo xng retX resX Calls PV Rd Con
theorem quarter_x (a b c d : Wd) : Con Tryz.prog 85 [u32b a, u32b b, u32b c, u32b d] [] (fun r M => r = .tuple #[u32b (quarterW a b c d).1, u32b (quarterW a b c d).2.1, u32b (quarterW a b c d).2.2.1, u32b (quarterW a b c d).2.2.2] ∧ M = []) := by
  refine fn_x Tryz.func85 rfl rfl rfl Tryz.mixed (by kernel_rfl) ?_
  intro w0
  refine Ct.o ?_
  refine Zgb ?_
  first|refine Zhg (Zaz rfl) ?_|refine Zhg (Zas rfl) ?_
  first|refine Zhg (Zaz rfl) ?_|refine Zhg (Zas rfl) ?_
  first|refine Zhg (Zaz rfl) ?_|refine Zhg (Zas rfl) ?_
  first|refine Zhg (Zaz rfl) ?_|refine Zhg (Zas rfl) ?_
  refine Zg3 ?_
  refine Ct.o ?_
  refine Zgb ?_
  first|refine Zhg (Zat rfl) ?_|refine Zhg (Zar rfl) ?_
  first|refine Zhg (Zat rfl) ?_|refine Zhg (Zar rfl) ?_
  refine Zhg (Zkn rfl rfl) ?_
  first|refine Zhg (Zaz rfl) ?_|refine Zhg (Zas rfl) ?_
  refine Zg3 ?_
  refine Ct.o ?_
  refine Zgb ?_
  first|refine Zhg (Zat rfl) ?_|refine Zhg (Zar rfl) ?_
  first|refine Zhg (Zat rfl) ?_|refine Zhg (Zar rfl) ?_
  refine Zhg (Zks rfl rfl) ?_
  first|refine Zhg (Zaz rfl) ?_|refine Zhg (Zas rfl) ?_
  refine Zg3 ?_
  refine Ct.o ?_
  refine Zgb ?_
  first|refine Zhg (Zat rfl) ?_|refine Zhg (Zar rfl) ?_
  refine Zh8 rfl (by kernel_rfl) (rotl_x _ 16 (by omega)) rfl qT ?_
  rintro _ _ ⟨rfl, rfl⟩
  refine Zg2 qA ?_
  first|refine Zhg (Zaz rfl) ?_|refine Zhg (Zas rfl) ?_
  refine Zg3 ?_
  refine Ct.o ?_
  refine Zgb ?_
  first|refine Zhg (Zat rfl) ?_|refine Zhg (Zar rfl) ?_
  first|refine Zhg (Zat rfl) ?_|refine Zhg (Zar rfl) ?_
  refine Zhg (Zkn rfl rfl) ?_
  first|refine Zhg (Zaz rfl) ?_|refine Zhg (Zas rfl) ?_
  refine Zg3 ?_
  refine Ct.o ?_
  refine Zgb ?_
  first|refine Zhg (Zat rfl) ?_|refine Zhg (Zar rfl) ?_
  first|refine Zhg (Zat rfl) ?_|refine Zhg (Zar rfl) ?_
  refine Zhg (Zks rfl rfl) ?_
  first|refine Zhg (Zaz rfl) ?_|refine Zhg (Zas rfl) ?_
  refine Zg3 ?_
  refine Ct.o ?_
  refine Zgb ?_
  first|refine Zhg (Zat rfl) ?_|refine Zhg (Zar rfl) ?_
  refine Zh8 rfl (by kernel_rfl) (rotl_x _ 12 (by omega)) rfl qT ?_
  rintro _ _ ⟨rfl, rfl⟩
  refine Zg2 qA ?_
  first|refine Zhg (Zaz rfl) ?_|refine Zhg (Zas rfl) ?_
  refine Zg3 ?_
  refine Ct.o ?_
  refine Zgb ?_
  first|refine Zhg (Zat rfl) ?_|refine Zhg (Zar rfl) ?_
  first|refine Zhg (Zat rfl) ?_|refine Zhg (Zar rfl) ?_
  refine Zhg (Zkn rfl rfl) ?_
  first|refine Zhg (Zaz rfl) ?_|refine Zhg (Zas rfl) ?_
  refine Zg3 ?_
  refine Ct.o ?_
  refine Zgb ?_
  first|refine Zhg (Zat rfl) ?_|refine Zhg (Zar rfl) ?_
  first|refine Zhg (Zat rfl) ?_|refine Zhg (Zar rfl) ?_
  refine Zhg (Zks rfl rfl) ?_
  first|refine Zhg (Zaz rfl) ?_|refine Zhg (Zas rfl) ?_
  refine Zg3 ?_
  refine Ct.o ?_
  refine Zgb ?_
  first|refine Zhg (Zat rfl) ?_|refine Zhg (Zar rfl) ?_
  refine Zh8 rfl (by kernel_rfl) (rotl_x _ 8 (by omega)) rfl qT ?_
  rintro _ _ ⟨rfl, rfl⟩
  refine Zg2 qA ?_
  first|refine Zhg (Zaz rfl) ?_|refine Zhg (Zas rfl) ?_
  refine Zg3 ?_
  refine Ct.o ?_
  refine Zgb ?_
  first|refine Zhg (Zat rfl) ?_|refine Zhg (Zar rfl) ?_
  first|refine Zhg (Zat rfl) ?_|refine Zhg (Zar rfl) ?_
  refine Zhg (Zkn rfl rfl) ?_
  first|refine Zhg (Zaz rfl) ?_|refine Zhg (Zas rfl) ?_
  refine Zg3 ?_
  refine Ct.o ?_
  refine Zgb ?_
  first|refine Zhg (Zat rfl) ?_|refine Zhg (Zar rfl) ?_
  first|refine Zhg (Zat rfl) ?_|refine Zhg (Zar rfl) ?_
  refine Zhg (Zks rfl rfl) ?_
  first|refine Zhg (Zaz rfl) ?_|refine Zhg (Zas rfl) ?_
  refine Zg3 ?_
  refine Ct.o ?_
  refine Zgb ?_
  first|refine Zhg (Zat rfl) ?_|refine Zhg (Zar rfl) ?_
  refine Zh8 rfl (by kernel_rfl) (rotl_x _ 7 (by omega)) rfl qT ?_
  rintro _ _ ⟨rfl, rfl⟩
  refine Zg2 qA ?_
  first|refine Zhg (Zaz rfl) ?_|refine Zhg (Zas rfl) ?_
  refine Zg3 ?_
  refine Ct.o ?_
  refine Zgb ?_
  first|refine Zhg (Zat rfl) ?_|refine Zhg (Zar rfl) ?_
  first|refine Zhg (Zat rfl) ?_|refine Zhg (Zar rfl) ?_
  first|refine Zhg (Zat rfl) ?_|refine Zhg (Zar rfl) ?_
  first|refine Zhg (Zat rfl) ?_|refine Zhg (Zar rfl) ?_
  first|refine Zhg (Zaz rfl) ?_|refine Zhg (Zas rfl) ?_
  first|refine Zhg (Zaz rfl) ?_|refine Zhg (Zas rfl) ?_
  first|refine Zhg (Zaz rfl) ?_|refine Zhg (Zas rfl) ?_
  first|refine Zhg (Zaz rfl) ?_|refine Zhg (Zas rfl) ?_
  refine Zg3 ?_
  refine Ct.o ?_
  refine rx4 (Zg9 rfl (Zg9 rfl (Zg9 rfl (Zg9 rfl (Zg7))))) ?_
  exact ⟨_, ⟨rfl, rfl⟩, by exact Imp.arr (by repeat (first|exact Arr.nil|exact Arr.stop|refine Arr.cons (by repeat constructor) ?_|refine Arr.skip ?_))⟩
theorem word_x {L : List Asrt} {v : Value} {b : List Byte} (h : Bs L v b) (hb : b.length = 4) : Con Tryz.prog 84 [v] L (fun r M => r = u32b (lowB 32 b) ∧ L = M) := by
  refine Con.get (fun w0 w F H => h.sh _ _ _ H) ?_
  rintro ⟨va, vc, rfl, hvc, hvcm⟩
  refine fn_x Tryz.func84 rfl rfl rfl Tryz.mixed (by kernel_rfl) ?_
  intro w0
  refine Ct.o ?_
  refine Zgb ?_
  first|refine Zhg (Zaz rfl) ?_|refine Zhg (Zas rfl) ?_
  refine Zg3 ?_
  refine Ct.o ?_
  refine Zgb ?_
  first|refine Zhg (Zaw rfl) ?_|refine Zhg (Zar rfl) ?_
  refine Zh8 rfl (by kernel_rfl) (little32_x h hb) rfl qT ?_
  rintro _ _ ⟨rfl, rfl⟩
  refine Zg2 qA ?_
  first|refine Zhg (Zmm rfl) ?_|refine Zhg (Zar rfl) ?_
  refine Zhg (Zco rfl rfl) ?_
  refine Zhg (Zco rfl rfl) ?_
  first|refine Zhg (Zaz rfl) ?_|refine Zhg (Zas rfl) ?_
  first|refine Zhg (Zaz rfl) ?_|refine Zhg (Zas rfl) ?_
  refine Zg3 ?_
  refine Ct.o ?_
  refine Zgb ?_
  first|refine Zhg (Zat rfl) ?_|refine Zhg (Zar rfl) ?_
  first|refine Zhg (Zaz rfl) ?_|refine Zhg (Zas rfl) ?_
  refine Zg3 ?_
  refine Ct.o ?_
  refine rx1 (Zg9 rfl (Zg7)) ?_
  exact ⟨_, ⟨rfl, rfl⟩, by exact Imp.arr (by repeat (first|exact Arr.nil|exact Arr.stop|refine Arr.cons (by repeat constructor) ?_|refine Arr.skip ?_))⟩
theorem bs_piece {M M' : List Asrt} {b E : Nat} {l : List Byte} {o n c : Nat} (hm : Has M (cl b (l.map u8b).toArray E) M') (hl : o + n ≤ l.length) (hc : n ≤ c) (hcm : c ≤ 9223372036854775807) : Bs M (.slice (some ⟨b, o, none⟩) n c) ((l.drop o).take n) := by
  have hn : ((l.drop o).take n).length = n := by simp; omega
  have := Bs.cl (M := M) (b := b) (o := o) (c := c) (l := (l.drop o).take n) hm (by simp [hn]; omega) (by
    rw [hn]; simp only [Array.toList_extract, List.extract_eq_take_drop, Nat.add_sub_cancel_left]
    rw [List.map_take, List.map_drop]) (by omega) hcm
  rwa [hn] at this
def st0 : List Wd := [1634760805#32, 857760878#32, 2036477234#32, 1797285236#32]
/-- The state while it is filled. -/
def stK (key : List Byte) (n : Nat) : List Wd := st0 ++ ((List.range n).map (fun i => lowB 32 ((key.drop (4 * i)).take 4)) ++ List.replicate (12 - n) 0#32)
def stN (key : List Byte) (ctr : Wd) (nonce : List Byte) (n : Nat) : List Wd := st0 ++ ((List.range 8).map (fun i => lowB 32 ((key.drop (4 * i)).take 4)) ++ (ctr :: ((List.range n).map (fun i => lowB 32 ((nonce.drop (4 * i)).take 4)) ++ List.replicate (3 - n) 0#32)))
theorem stK_len (key : List Byte) (n : Nat) (h : n ≤ 8) : (stK key n).length = 16 := by simp [stK, st0]; omega
theorem stN_len (key : List Byte) (ctr : Wd) (nonce : List Byte) (n : Nat) (h : n ≤ 3) : (stN key ctr nonce n).length = 16 := by simp [stN, st0]; omega
theorem stK_set (key : List Byte) (n : Nat) (h : n < 8) : (stK key n).set (4 + n) (lowB 32 ((key.drop (4 * n)).take 4)) = stK key (n + 1) := by
  unfold stK
  rw [List.set_append_right _ _ (by simp [st0]), List.set_append_right _ _ (by simp [st0])]
  simp only [st0, List.length_cons, List.length_nil, List.length_map, List.length_range]
  rw [show 4 + n - (0 + 1 + 1 + 1 + 1) - n = 0 by omega, show 12 - n = (12 - (n + 1)) + 1 by omega, List.replicate_succ, List.set_cons_zero, List.range_succ, List.map_append, List.append_assoc]
  rfl
theorem stK_ctr (key : List Byte) (ctr : Wd) (nonce : List Byte) : (stK key 8).set 12 ctr = stN key ctr nonce 0 := rfl
theorem stN_set (key : List Byte) (ctr : Wd) (nonce : List Byte) (n : Nat) (h : n < 3) : (stN key ctr nonce n).set (13 + n) (lowB 32 ((nonce.drop (4 * n)).take 4)) = stN key ctr nonce (n + 1) := by
  match n, h with
  | 0, _ => rfl
  | 1, _ => rfl
  | 2, _ => rfl
theorem stN_end (key : List Byte) (ctr : Wd) (nonce : List Byte) : stN key ctr nonce 3 = stateW key ctr nonce := rfl
attribute [local irreducible] lowB stK stN
theorem state_x (key : List Byte) (ctr : Wd) (nonce : List Byte) (hk : key.length = 32) (hn : nonce.length = 12) : Con Tryz.prog 67 [.agg (key.map u8b).toArray, u32b ctr, .agg (nonce.map u8b).toArray] [] (fun r M => r = .agg ((stateW key ctr nonce).map u32b).toArray ∧ M = []) := by
  have hk0 : stK key 0 = [1634760805#32, 857760878#32, 2036477234#32, 1797285236#32, 0#32, 0#32, 0#32, 0#32, 0#32, 0#32, 0#32, 0#32, 0#32, 0#32, 0#32, 0#32] := by unfold stK; rfl
  refine fn_x Tryz.func67 rfl rfl rfl Tryz.mixed (by kernel_rfl) ?_
  intro w0
  refine Ct.o ?_
  refine Zgb ?_
  refine Zh5 rfl ?_; intro b3
  refine Zh5 rfl ?_; intro b5
  refine Zhz (cs := ((List.replicate 16 0#32).map u32b).toArray) rfl ?_; intro b6
  refine Zg3 ?_
  refine Ct.o ?_
  refine Zgb ?_
  refine Zhg (Zdn (cs := #[u32b 1634760805#32, u32b 857760878#32, u32b 2036477234#32, u32b 1797285236#32, u32b 0#32, u32b 0#32, u32b 0#32, u32b 0#32, u32b 0#32, u32b 0#32, u32b 0#32, u32b 0#32, u32b 0#32, u32b 0#32, u32b 0#32, u32b 0#32]) (by kernel_rfl)) ?_
  refine Zhz (cs := ((List.replicate 16 0#32).map u32b).toArray) rfl ?_; intro b7
  first|refine Zhy rfl rfl qR qZ qN qZ ?_|refine Zhx rfl rfl qR qZ qN qZ rfl ?_
  refine Zg3 ?_
  refine Ct.o ?_
  refine Zgb ?_
  first|refine Zhg (Zat rfl) ?_|refine Zhg (Zar rfl) ?_
  refine Zg3 ?_
  refine Ct.o ?_
  refine Zgo [(8, 8), (11, 24)] (by kernel_rfl) (fun i : Nat => i ≤ 8) (fun i => [cl b7 ((stK key i).map u32b).toArray 103, cl b6 ((List.replicate 16 0#32).map u32b).toArray 103, cl b5 (nonce.map u8b).toArray 45, cl b3 (key.map u8b).toArray 23])
    (fun i => [(11, nvv i)]) (fun i => 8 - i) 0 (by omega) (by rw [hk0]; exact qI) ⟨rfl, trivial⟩ ?_
  intro i u hi
  have hkl := stK_len key i hi
  refine Ct.o ?_
  refine Zgb ?_
  first|refine Zhg (Zmf (b := 8) rfl rfl) ?_|refine Zhg (Zbn rfl rfl) ?_
  refine Zg3 ?_
  refine Ct.o ?_
  refine Zgg rfl (fun hB => ?_) (fun hB => ?_)
  · refine Ct.o ?_
    refine Zgb ?_
    first|refine Zhg (Zat rfl) ?_|refine Zhg (Zar rfl) ?_
    first|refine Zhg (Zaz rfl) ?_|refine Zhg (Zas rfl) ?_
    refine Zg3 ?_
    refine Ct.o ?_
    refine Zgb ?_
    first|refine Zhg (Zat rfl) ?_|refine Zhg (Zar rfl) ?_
    first|refine Zhg (Zma (a := 4) rfl rfl) ?_|refine Zhg (Zbg rfl rfl) ?_
    first|refine Zhg (Zat rfl) ?_|refine Zhg (Zar rfl) ?_
    first|refine Zhg (Zmc (a := 4) rfl rfl) ?_|refine Zhg (Zbi rfl rfl) ?_
    first|refine Zhg (Zat rfl) ?_|refine Zhg (Zar rfl) ?_
    first|refine Zhg (Zmc (a := 4) rfl rfl) ?_|refine Zhg (Zbi rfl rfl) ?_
    first|refine Zhg (Zma (b := 4) rfl rfl) ?_|refine Zhg (Zbg rfl rfl) ?_
    first|refine Zhg (Zm9 (l := 4 * i) (h := 4 * i + 4) rfl qB qB) ?_|refine Zhg (Zmx (l := 4 * i) (h := 4 * i + 4) rfl qB qB) ?_
    refine Zh8 rfl (by kernel_rfl) (word_x (L := [cl b3 (key.map u8b).toArray 23]) (b := (key.drop (4 * i)).take (4 * i + 4 - 4 * i)) (bs_piece (o := 4 * i) (n := 4 * i + 4 - 4 * i) (c := 32 - 4 * i) qH (by omega) (by omega) (by omega)) (by simp; omega)) rfl qT ?_
    rintro _ _ ⟨rfl, rfl⟩
    refine Zg2 qA ?_
    first|refine Zhg (Zl5 (n := 4 + i) rfl (int_eq (by push_cast; omega))) ?_|refine Zhg (Zl3 (n := 4 + i) rfl (int_eq (by push_cast; omega))) ?_
    refine Zht rfl rfl qR qZ (setL (f := u32b) (l := stK key i)) ?_
    refine Zg3 ?_
    refine Ct.o ?_
    rw [show 4 * i + 4 - 4 * i = 4 by omega, stK_set key i hB]
    refine Ct.o ?_
    refine Zgb ?_
    first|refine Zhg (Zma (b := 1) rfl rfl) ?_|refine Zhg (Zbg rfl rfl) ?_
    first|refine Zhg (Zat rfl) ?_|refine Zhg (Zar rfl) ?_
    refine Zg3 ?_
    refine Ct.o ?_
    exact Zgl (i + 1) qO (by omega) qI ⟨rfl, trivial⟩
  · have hie : i = 8 := by omega
    subst hie
    refine Ct.o ?_
    refine Zgb ?_
    first|refine Zhg (Zat rfl) ?_|refine Zhg (Zar rfl) ?_
    first|refine Zhg (Zl5 (n := 12) rfl rfl) ?_|refine Zhg (Zl3 (n := 12) rfl rfl) ?_
    refine Zht rfl rfl qR qZ (setL (f := u32b) (l := stK key 8)) ?_
    refine Zg3 ?_
    refine Ct.o ?_
    rw [stK_ctr key ctr nonce]
    refine Ct.o ?_
    refine Zgb ?_
    first|refine Zhg (Zat rfl) ?_|refine Zhg (Zar rfl) ?_
    refine Zg3 ?_
    refine Ct.o ?_
    refine Zgo [(9, 9), (27, 40)] (by kernel_rfl) (fun i : Nat => i ≤ 3) (fun i => [cl b7 ((stN key ctr nonce i).map u32b).toArray 103, cl b6 ((List.replicate 16 0#32).map u32b).toArray 103, cl b5 (nonce.map u8b).toArray 45, cl b3 (key.map u8b).toArray 23])
      (fun i => [(27, nvv i)]) (fun i => 3 - i) 0 (by omega) qI ⟨rfl, trivial⟩ ?_
    intro i u2 hi
    have hkl := stN_len key ctr nonce i hi
    refine Ct.o ?_
    refine Zgb ?_
    first|refine Zhg (Zmf (b := 3) rfl rfl) ?_|refine Zhg (Zbn rfl rfl) ?_
    refine Zg3 ?_
    refine Ct.o ?_
    refine Zgg rfl (fun hB => ?_) (fun hB => ?_)
    · refine Ct.o ?_
      refine Zgb ?_
      first|refine Zhg (Zat rfl) ?_|refine Zhg (Zar rfl) ?_
      first|refine Zhg (Zaz rfl) ?_|refine Zhg (Zas rfl) ?_
      refine Zg3 ?_
      refine Ct.o ?_
      refine Zgb ?_
      first|refine Zhg (Zat rfl) ?_|refine Zhg (Zar rfl) ?_
      first|refine Zhg (Zma (a := 13) rfl rfl) ?_|refine Zhg (Zbg rfl rfl) ?_
      first|refine Zhg (Zat rfl) ?_|refine Zhg (Zar rfl) ?_
      first|refine Zhg (Zmc (a := 4) rfl rfl) ?_|refine Zhg (Zbi rfl rfl) ?_
      first|refine Zhg (Zat rfl) ?_|refine Zhg (Zar rfl) ?_
      first|refine Zhg (Zmc (a := 4) rfl rfl) ?_|refine Zhg (Zbi rfl rfl) ?_
      first|refine Zhg (Zma (b := 4) rfl rfl) ?_|refine Zhg (Zbg rfl rfl) ?_
      first|refine Zhg (Zm9 (l := 4 * i) (h := 4 * i + 4) rfl qB qB) ?_|refine Zhg (Zmx (l := 4 * i) (h := 4 * i + 4) rfl qB qB) ?_
      refine Zh8 rfl (by kernel_rfl) (word_x (L := [cl b5 (nonce.map u8b).toArray 45]) (b := (nonce.drop (4 * i)).take (4 * i + 4 - 4 * i)) (bs_piece (o := 4 * i) (n := 4 * i + 4 - 4 * i) (c := 12 - 4 * i) qH (by omega) (by omega) (by omega)) (by simp; omega)) rfl qT ?_
      rintro _ _ ⟨rfl, rfl⟩
      refine Zg2 qA ?_
      first|refine Zhg (Zl5 (n := 13 + i) rfl (int_eq (by push_cast; omega))) ?_|refine Zhg (Zl3 (n := 13 + i) rfl (int_eq (by push_cast; omega))) ?_
      refine Zht rfl rfl qR qZ (setL (f := u32b) (l := stN key ctr nonce i)) ?_
      refine Zg3 ?_
      refine Ct.o ?_
      rw [show 4 * i + 4 - 4 * i = 4 by omega, stN_set key ctr nonce i hB]
      refine Ct.o ?_
      refine Zgb ?_
      first|refine Zhg (Zma (b := 1) rfl rfl) ?_|refine Zhg (Zbg rfl rfl) ?_
      first|refine Zhg (Zat rfl) ?_|refine Zhg (Zar rfl) ?_
      refine Zg3 ?_
      refine Ct.o ?_
      exact Zgl (i + 1) qO (by omega) qI ⟨rfl, trivial⟩
    · have hie : i = 3 := by omega
      subst hie
      rw [stN_end]
      have hsl := stateW_len key ctr nonce
      refine Ct.o ?_
      refine Zgb ?_
      first|refine Zhr rfl qH qZ ?_|refine Zhq rfl qH qZ rfl ?_
      first|refine Zhy rfl rfl qR qZ qN qZ ?_|refine Zhx rfl rfl qR qZ qN qZ rfl ?_
      refine Zg3 ?_
      refine Ct.o ?_
      refine rx1 (Zhe rfl qH qZ (Zg7)) ?_
      exact ⟨_, ⟨rfl, rfl⟩, by exact Imp.arr (by repeat (first|exact Arr.nil|exact Arr.stop|refine Arr.cons (by repeat constructor) ?_|refine Arr.skip ?_))⟩
end Go.Sl

/- more rules: cuts with a room of their own; interfaces: calls, tests, comparisons. -/
set_option linter.unusedVariables false
set_option linter.unusedSimpArgs false
namespace Go.Sl
open Go
theorem run_bounds3 {P : Program} {ρ : Env} {len cap : Nat} {y m : Operand} {k k' : IntKind} {h : Nat} {w : World} (hh : ev ρ y = .int k (h : Int)) (hm : ev ρ m = .int k' (h : Int)) (hc : h ≤ cap) :
    (Instr.sliceBounds true len cap none (some (ev ρ y)) (some (ev ρ m))).run P w = .ok (0, h, h) w := by
  unfold Instr.sliceBounds
  simp only []
  rw [run_bind P _ _ w w _ (run_bound hm ⟨by omega, by omega⟩), Int.toNat_natCast, run_bind P _ _ w w _ (run_bound hh ⟨by omega, by omega⟩), Int.toNat_natCast]
  rfl
/-- A cut that can't grow into the others. -/
theorem Zns {P : Program} {ρ : Env} {x y m : Operand} {S E sz by' bb o len cap : Nat} {z : Value} {k k' : IntKind} {h : Nat} [hs : TySlice P S E] [hi' : TyI P E sz by' z] (hx : ev ρ x = .slice (some ⟨bb, o, none⟩) len cap)
    (hh : ev ρ y = .int k (h : Int)) (hm : ev ρ m = .int k' (h : Int)) (hc : h ≤ cap) (h0 : 0 < h) :
    PV P (.slice S x none (some y) (some m)) ρ (.slice (some ⟨bb, o, none⟩) h h) := by
  intro oo w ho; unfold execOp; rw [ho]; refine op_run_value ?_; rw [hx]
  unfold Instr.sliceAt
  rw [run_bind P _ _ w w _ (run_under hs.h)]
  simp only []
  unfold Instr.slice
  rw [run_bind P _ _ w w _ (run_under hs.h)]
  simp only [Option.map_none, Option.map_some]
  rw [run_bind P _ _ w w _ (run_bounds3 hh hm hc), run_bind P _ _ w w _ (run_size hi')]
  show (Result.ok (Value.slice _ _ _) w : Result Value) = _
  rw [if_neg (show ¬ h = 0 from by omega)]
  simp [Option.map, addr_add]
theorem getE0 (v : Value) (l : Array Value) : (#[v] ++ l)[0]? = some v := by
  rw [← Array.getElem?_toList, Array.toList_append]; rfl
theorem getE1 (v : Value) (l : Array Value) : (#[v] ++ l).extract 1 (#[v] ++ l).size = l := by
  apply Array.ext'
  rw [Array.toList_extract, Array.toList_append, Array.size_append]
  simp only [List.extract_eq_take_drop, List.cons_append, List.nil_append, List.drop_succ_cons, List.drop_zero]
  exact List.take_of_length_le (by simp)
/-- The method that an interface value of the dynamic type t has under a name. -/
def Met (P : Program) (t : TypeId) (v : Value) (name : String) (F : FuncId) (rv : Value) : Prop := ∀ w, (Go.method (P.types.size + Made.depth) t v name).run P w = .ok (F, rv) w
section
variable {P : Program} {w0 : World} {ops : Array Oper} {dst : Option Nat} {ty : TypeId} {pos : String} {after : Array Edge} {rest : List Oper} {ρ : Env} {K : XK} {M : List Asrt}
theorem run_callMethod {w : World} {t : TypeId} {v rv : Value} {name : String} {F : FuncId} {args : Array Value} (hm : Met P t v name F rv) : (callMethod (.iface t v) name args).run P w = (callFunc F (#[rv] ++ args)).run P w := by
  unfold callMethod
  simp only []
  show ((program >>= fun p => method (p.types.size + Made.depth) t v name >>= _) : Sem Next).run P w = _
  rw [run_bind P _ _ w w P rfl, run_bind P _ _ w w _ (hm w)]
theorem Znt {F : FuncId} {r : Operand} {name : String} {ars : Array Operand} {ts : Array TypeId} {t : TypeId} {v rv : Value} {vs : List Value} {M1 R : List Asrt} {Φ : Value → List Asrt → Prop} (hr : ev ρ r = .iface t v) (hm : Met P t v name F rv) (hb : callable P F = true)
    (hc : Con P F (rv :: vs) M1 Φ) (ha : (ars.toList.map (ev ρ)) = vs) (hs : Take M M1 R) (k : ∀ v M', Φ v M' → xOps P w0 ops rest (put ρ dst v) (M' ++ R) K) :
    xOps P w0 ops (⟨dst, .call { callee := .invoke r name, args := ars, argTypes := ts }, ty, pos, after, none⟩ :: rest) ρ M K := by
  intro F' w H
  have H1 : St w0 w (F' :: (M1 ++ R)) := H.enx hs.ent
  have H2 : St w0 w (all (F' :: R) :: M1) := by
    refine H1.ent (Imp.trans (Imp.cons Imp.app) (Imp.trans Imp.swap ?_))
    have h3 : Imp (all M1 :: (F' :: R)) ((F' :: R) ++ [all M1]) := Imp.comm (L := [all M1]) (M := F' :: R)
    refine h3.trans (Imp.app.trans (Imp.cons ?_))
    have := Imp.unapp (L := M1) (M := [])
    rwa [List.append_nil] at this
  refine Zcy ?_
  subst ha
  have : (execOp (ev ρ) ⟨dst, .call { callee := .invoke r name, args := ars, argTypes := ts }, ty, pos, after, none⟩).run P w = .ok (.enter F (rv :: ars.toList.map (ev ρ)).toArray) w := by
    unfold execOp
    simp only [resolve, hr, pure_bind, invoke]
    have e0 : (#[Value.iface t v] ++ ars.map (ev ρ))[0]? = some (.iface t v) := getE0 _ _
    have e1 : (#[Value.iface t v] ++ ars.map (ev ρ)).extract 1 (#[Value.iface t v] ++ ars.map (ev ρ)).size = ars.map (ev ρ) := getE1 _ _
    rw [e0]
    simp only [e1]
    rw [run_callMethod hm]
    unfold callFunc
    unfold callable at hb
    show ((program >>= _) : Sem Next).run P w = _
    rw [run_bind P _ _ w w P rfl]
    split at hb
    · rename_i fn hfn
      simp only [hfn]
      simp only [Bool.and_eq_true, bne_iff_ne, ne_eq, Option.isSome_iff_ne_none] at hb
      rw [if_neg (by simp [hb.1]), if_neg (by simp [hb.2])]
      have : #[rv] ++ Array.map (ev ρ) ars = (rv :: ars.toList.map (ev ρ)).toArray := by
        apply Array.ext'
        simp
      rw [this]; rfl
    · cases hb
  rw [this]
  refine Calls.mono (hc w0 _ w H2) (Ret.mono fun v w' hq => ?_)
  obtain ⟨M', H', hφ⟩ := hq
  exact k v M' hφ F' w' (H'.ent (Imp.unapp.trans (Imp.cons Imp.comm)))
/-- ... a function that the model itself answers. -/
theorem Znu {F : FuncId} {r : Operand} {name : String} {ars : Array Operand} {ts : Array TypeId} {t : TypeId} {v rv u : Value} {vs : List Value} (hr : ev ρ r = .iface t v) (hm : Met P t v name F rv) (h : extv P F (rv :: vs) u) (ha : (ars.toList.map (ev ρ)) = vs) :
    PV P (.call { callee := .invoke r name, args := ars, argTypes := ts }) ρ u := by
  intro oo w ho
  unfold execOp
  subst ha
  simp only [ho, resolve, hr, pure_bind, invoke]
  have e0 : (#[Value.iface t v] ++ ars.map (ev ρ))[0]? = some (.iface t v) := getE0 _ _
  have e1 : (#[Value.iface t v] ++ ars.map (ev ρ)).extract 1 (#[Value.iface t v] ++ ars.map (ev ρ)).size = ars.map (ev ρ) := getE1 _ _
  rw [e0]
  simp only [e1]
  rw [run_callMethod hm]
  have : #[rv] ++ Array.map (ev ρ) ars = (rv :: ars.toList.map (ev ρ)).toArray := by
    apply Array.ext'
    simp
  rw [this]
  exact h w
theorem extv_of {F : FuncId} {fn : Func} {e : Array Value → Sem Value} {vs : List Value} {v : Value} (hf : P.funcs[F]? = some fn) (hname : (fn.name == "runtime.NumGoroutine") = false)
    (hb : fn.body.isNone = true) (hn : Extern.findNext fn = none) (he : Extern.find fn = some e) (h : ∀ w, (e vs.toArray).run P w = .ok v w) : extv P F vs v := by
  intro w
  rw [run_callFunc_extern hf hname hb hn he, h w]
  rfl
/-- 'x, ok := e.(I)', where the dynamic type lacks a method of I. -/
theorem Znv {x : Operand} {X U t : TypeId} {want : Array (String × TypeId)} {v z : Value} (hx : ev ρ x = .iface t v) (hu : P.underlying U = some (.interface want)) (h : (P.info? t).map (fun i => (lacking want i.methods).isEmpty) = some false) (hz : (P.info? U).map (·.zero) = some (some z)) :
    PV P (.typeAssert x X U true) ρ (.tuple #[z, .bool false]) := by
  intro oo w ho; unfold execOp; rw [ho]; refine op_run_value ?_; rw [hx]
  exact run_typeAssert_lacksB hu h hz v X w
theorem Znw {x y : Operand} {T T' t : TypeId} {v : Value} (hT : P.isIface T = true) (hx : ev ρ x = .iface t v) (hy : ev ρ y = .nilIface) : PV P (.binOp .eql T x y T') ρ (.bool false) :=
  Zb9 hx hy (fun w => by unfold eqGuard; rfl) fun w => run_eql_iface_nil w T hT t v
theorem Znx {x y : Operand} {T T' t : TypeId} {v : Value} (hT : P.isIface T = true) (hx : ev ρ x = .iface t v) (hy : ev ρ y = .nilIface) : PV P (.binOp .neq T x y T') ρ (.bool true) :=
  Zb9 hx hy (fun w => by unfold eqGuard; rfl) fun w => run_neq_iface_nil w T hT t v
theorem Zny {x y : Operand} {T T' t : TypeId} {ms : Array (String × TypeId)} {k q : IntKind} {a b : Int} (ht : P.underlying T = some (.interface ms)) (hc : (P.info? t).map (·.comparable) = some true) (hq : P.underlying t = some (.int q)) (hx : ev ρ x = .iface t (.int k a)) (hy : ev ρ y = .iface t (.int k b)) : PV P (.binOp .eql T x y T') ρ (.bool (decide (a = b))) :=
  Zb9 hx hy (fun w => by unfold eqGuard; rfl) fun w => Go.Lib.run_eql_iface_int (P := P) w (k := k) a b ht hc hq
end
theorem own_cap {E size n c : Nat} {a : Option Addr} {xs : List Value} {w0 w : World} {F : Asrt} {M M' : List Asrt} (hm : Has M (Sl.own E size (.slice a n c) n xs) M') (H : St w0 w (F :: M)) : n ≤ c ∧ c ≤ 9223372036854775807 := by
  obtain ⟨a', c', hv, h1, h2⟩ := own_shape (H.pick (.there hm))
  simp only [Value.slice.injEq] at hv
  obtain ⟨_, _, rfl⟩ := hv
  exact ⟨h1, h2⟩
end Go.Sl

/- octet: a reader of bytes: NewReader, take, U64, U32, Err, walked; low of uint64. -/
set_option maxHeartbeats 4000000
set_option maxRecDepth 10000
set_option linter.unusedVariables false
set_option linter.unusedSimpArgs false
namespace Go.Sl
open Go Go.Proofs
attribute [local irreducible] cl pt own old pur ex all den denOps denS xOps xC cX CX xthen xblk xcut xloop xgo xng retX resX Calls PV Rd Con
theorem low64_x {L : List Asrt} {v : Value} {b : List Byte} (h : Bs L v b) (hb : b.length ≤ 140737488355000) : Con Tryz.prog 46 [v] L (fun r M => r = u64b (lowB 64 b) ∧ L = M) := by
  refine Con.get (fun w0 w F H => h.sh _ _ _ H) ?_
  rintro ⟨va, vc, rfl, hvc, hvcm⟩
  refine fn_x Tryz.func46 rfl rfl rfl Tryz.mixed (by kernel_rfl) ?_
  intro w0
  refine Ct.o ?_
  refine Zgb ?_
  first|refine Zhg (Zaz rfl) ?_|refine Zhg (Zas rfl) ?_
  refine Zg3 ?_
  refine Ct.o ?_
  refine Zgb ?_
  first|refine Zhg (Zaz rfl) ?_|refine Zhg (Zas rfl) ?_
  refine Zg3 ?_
  refine Ct.o ?_
  refine Zgb ?_
  first|refine Zhg (Zaw rfl) ?_|refine Zhg (Zar rfl) ?_
  first|refine Zhg (Zcr rfl) ?_|refine Zhg (Zct) ?_|refine Zhg (Zcu rfl) ?_
  first|refine Zhg (Zat rfl) ?_|refine Zhg (Zar rfl) ?_
  refine Zg3 ?_
  refine Ct.o ?_
  refine Zgo [(3, 5), (8, 20)] (by kernel_rfl) (fun i : Nat => i ≤ b.length) (fun _ => L) (fun i => [(3, u64b (lowB 64 (b.take i))), (8, nvv i)]) (fun i => b.length - i) 0 (by omega) qI ⟨by rw [List.take_zero]; rfl, rfl, trivial⟩ ?_
  intro i u hi
  refine Ct.o ?_
  refine Zgb ?_
  first|refine Zhg (Zmf rfl rfl) ?_|refine Zhg (Zbn rfl rfl) ?_
  refine Zg3 ?_
  refine Ct.o ?_
  refine Zgg rfl (fun hB => ?_) (fun hB => ?_)
  · refine Zgt (fun F w H => h.some (by omega) H) ?_
    rintro ⟨a1, a2, rfl⟩
    refine Ct.o ?_
    refine Zgb ?_
    first|refine Zhg (Zat rfl) ?_|refine Zhg (Zar rfl) ?_
    first|refine Zhg (Zl4 rfl rfl) ?_|refine Zhg (Zl1 rfl rfl) ?_
    refine Zff rfl (h.rd.at hB (getM hB)) ?_
    first|refine Zhg (Zaz rfl) ?_|refine Zhg (Zas rfl) ?_
    first|refine Zhg (Zaz rfl) ?_|refine Zhg (Zas rfl) ?_
    refine Zg3 ?_
    refine Ct.o ?_
    refine Zgb ?_
    first|refine Zhg (Zat rfl) ?_|refine Zhg (Zar rfl) ?_
    first|refine Zhg (Zat rfl) ?_|refine Zhg (Zar rfl) ?_
    refine Zhg (Zjx rfl) ?_
    first|refine Zhg (Zat rfl) ?_|refine Zhg (Zar rfl) ?_
    first|refine Zhg (Zmc (a := 8) rfl rfl) ?_|refine Zhg (Zbi rfl rfl) ?_
    refine Zhg (Zlj rfl rfl) ?_
    refine Zhg (Zlg rfl rfl) ?_
    first|refine Zhg (Zaz rfl) ?_|refine Zhg (Zas rfl) ?_
    refine Zg3 ?_
    refine Ct.o ?_
    refine Zgb ?_
    first|refine Zhg (Zma (b := 1) rfl rfl) ?_|refine Zhg (Zbg rfl rfl) ?_
    first|refine Zhg (Zat rfl) ?_|refine Zhg (Zar rfl) ?_
    refine Zg3 ?_
    refine Ct.o ?_
    have e : lowB 64 (b.take (i + 1)) = lowB 64 (b.take i) ||| (b[i].setWidth 64) <<< (8 * i) := by
      rw [List.take_succ_eq_append_getElem hB, lowB_snoc, List.length_take, Nat.min_eq_left hi]
    exact Zgl (i + 1) qO (by omega) qI ⟨by rw [e]; rfl, rfl, trivial⟩
  · have hie : i = b.length := by omega
    subst hie
    rw [List.take_length]
    refine Ct.o ?_
    refine Zgb ?_
    first|refine Zhg (Zat rfl) ?_|refine Zhg (Zar rfl) ?_
    first|refine Zhg (Zaz rfl) ?_|refine Zhg (Zas rfl) ?_
    refine Zg3 ?_
    refine Ct.o ?_
    refine rx1 (Zg9 rfl (Zg7)) ?_
    exact ⟨_, ⟨rfl, rfl⟩, by exact Imp.arr (by repeat (first|exact Arr.nil|exact Arr.stop|refine Arr.cons (by repeat constructor) ?_|refine Arr.skip ?_))⟩
/-- A reader's cells. -/
abbrev rdc (g o len c : Nat) : Array Value := #[.slice (some ⟨g, o, none⟩) len c, nvv 0]
theorem newReader_x {L : List Asrt} {v : Value} {b : List Byte} (h : Bs L v b) (hb : b.length ≤ 140737488351232) :
    Con Tryz.prog 30 [v] L (fun r M => ∃ p g, r = .pointer (some ⟨p, 0, none⟩) ∧ M = cl p (rdc g 0 b.length b.length) 75 :: cl g (b.map u8b).toArray 5 :: L) := by
  refine Con.get (fun w0 w F H => h.sh _ _ _ H) ?_
  rintro ⟨va, vc, rfl, hvc, hvcm⟩
  refine fn_x Tryz.func30 rfl rfl rfl Tryz.mixed (by kernel_rfl) ?_
  intro w0
  refine Ct.o ?_
  refine Zgb ?_
  first|refine Zhg (Za1 rfl) ?_|refine Zhg (Zas rfl) ?_
  refine Zg3 ?_
  refine Ct.o ?_
  refine Zgb ?_
  first|refine Zhg (Zaw rfl) ?_|refine Zhg (Zar rfl) ?_
  first|refine Zhg (Zcr rfl) ?_|refine Zhg (Zct) ?_|refine Zhg (Zcu rfl) ?_
  refine Zm3 (f := u8b) (a := 0#8) rfl rfl rfl qS qS qS ?_; intro b6
  first|refine Zhg (Za2 rfl) ?_|refine Zhg (Zas rfl) ?_
  refine Zg3 ?_
  refine Ct.o ?_
  refine Zgb ?_
  first|refine Zhg (Zaw rfl) ?_|refine Zhg (Zar rfl) ?_
  first|refine Zhg (Zaw rfl) ?_|refine Zhg (Zar rfl) ?_
  refine Zib rfl rfl (h.rd.imp Imp.tail) qR qZ qN ((by have := copy_pre b 0; simpa using this)) ?_
  refine Zg3 ?_
  refine Ct.o ?_
  refine Zgb ?_
  first|refine Zhg (Zaw rfl) ?_|refine Zhg (Zar rfl) ?_
  refine Zhg (Zdm (cs := #[.slice _ _ _, .int .i64 0]) rfl) ?_
  refine Zh5 rfl ?_; intro b12
  first|refine Zhg (Za1 rfl) ?_|refine Zhg (Zas rfl) ?_
  refine Zg3 ?_
  refine Ct.o ?_
  refine rx1 (Zhb rfl (Zg7)) ?_
  exact ⟨_, ⟨b12, b6, rfl, rfl⟩, qI⟩
theorem take_x {p g o len c n : Nat} (hn : n ≤ len) (hc : n < c) (h0 : 0 < n) (hcm : c ≤ 9223372036854775807) (hlc : len ≤ c) :
    Con Tryz.prog 47 [.pointer (some ⟨p, 0, none⟩), nvv n] [cl p (rdc g o len c) 75] (fun r M => r = .slice (some ⟨g, o, none⟩) n n ∧ M = [cl p (rdc g (o + n) (len - n) (c - n)) 75]) := by
  refine fn_x Tryz.func47 rfl rfl rfl Tryz.mixed (by kernel_rfl) ?_
  intro w0
  refine Ct.o ?_
  refine Zgb ?_
  first|refine Zhg (Za2 rfl) ?_|refine Zhg (Zas rfl) ?_
  refine Zg3 ?_
  refine Ct.o ?_
  refine Zgb ?_
  first|refine Zhg (Zav rfl) ?_|refine Zhg (Zar rfl) ?_
  refine Zhg (Zca rfl rfl) ?_
  first|refine Zhg (Zau rfl) ?_|refine Zhg (Zar rfl) ?_
  first|refine Zhi rfl ?_|refine Zhj rfl ?_|(refine Zhh rfl ?_; (first|refine Zhg (Zav rfl) ?_|refine Zhg (Zar rfl) ?_))
  first|refine Zhi rfl ?_|refine Zhj rfl ?_|(refine Zhh rfl ?_; (refine Zhg (Zba rfl) ?_))
  first|refine Zhi rfl ?_|refine Zhj rfl ?_|(refine Zhh rfl ?_; (first|refine Zhg (Zl8 rfl) ?_|refine Zhg (Zce rfl) ?_))
  first|refine Zhi rfl ?_|refine Zhj rfl ?_|(refine Zhh rfl ?_; (refine Zhp rfl qH rfl ?_))
  first|refine Zhi rfl ?_|refine Zhj rfl ?_|(refine Zhh rfl ?_; (first|refine Zhg (Zmk (b := 0) rfl rfl) ?_|refine Zhg (Zbs rfl rfl) ?_))
  refine Zhn 13 rfl (decide_eq_false (by decide)) ?_
  first|refine Zhg (Zdz rfl rfl) ?_|refine Zhg (Zd0 rfl rfl) ?_|refine Zhg (Za8 rfl rfl) ?_|refine Zhg (Za9 rfl rfl) ?_|refine Zhg (Za6 rfl rfl) ?_|refine Zhg (Za7 rfl rfl) ?_
  refine Zg3 ?_
  refine Ct.o ?_
  refine Zgf rfl ?_
  refine Ct.o ?_
  refine Zgb ?_
  first|refine Zhg (Zat rfl) ?_|refine Zhg (Zar rfl) ?_
  first|refine Zhg (Zmf (b := 0) rfl rfl) ?_|refine Zhg (Zbn rfl rfl) ?_
  refine Zhn 17 rfl (decide_eq_false (by omega)) ?_
  first|refine Zhg (Za0 rfl) ?_|refine Zhg (Zas rfl) ?_
  refine Zg3 ?_
  refine Ct.o ?_
  refine Zgf rfl ?_
  refine Ct.o ?_
  refine Zgb ?_
  first|refine Zhg (Zat rfl) ?_|refine Zhg (Zar rfl) ?_
  first|refine Zhg (Zav rfl) ?_|refine Zhg (Zar rfl) ?_
  refine Zhg (Zba rfl) ?_
  first|refine Zhg (Zl8 rfl) ?_|refine Zhg (Zce rfl) ?_
  refine Zhp rfl qH rfl ?_
  first|refine Zhg (Zcr rfl) ?_|refine Zhg (Zct) ?_|refine Zhg (Zcu rfl) ?_
  first|refine Zhg (Zmh rfl rfl) ?_|refine Zhg (Zbp rfl rfl) ?_
  refine Zhn 28 rfl (decide_eq_false (by omega)) ?_
  first|refine Zhg (Za0 rfl) ?_|refine Zhg (Zas rfl) ?_
  refine Zg3 ?_
  refine Ct.o ?_
  refine Zgf rfl ?_
  refine Ct.o ?_
  refine Zgb ?_
  first|refine Zhg (Zav rfl) ?_|refine Zhg (Zar rfl) ?_
  refine Zhg (Zba rfl) ?_
  first|refine Zhg (Zl8 rfl) ?_|refine Zhg (Zce rfl) ?_
  refine Zhp rfl qH rfl ?_
  first|refine Zhg (Zmk (b := 0) rfl rfl) ?_|refine Zhg (Zbs rfl rfl) ?_
  refine Zhn 36 rfl (decide_eq_false (by decide)) ?_
  refine Zg3 ?_
  refine Ct.o ?_
  refine Zgf rfl ?_
  refine Ct.o ?_
  refine Zgb ?_
  first|refine Zhg (Zav rfl) ?_|refine Zhg (Zar rfl) ?_
  refine Zhg (Zba rfl) ?_
  first|refine Zhg (Zl8 rfl) ?_|refine Zhg (Zce rfl) ?_
  refine Zhp rfl qH rfl ?_
  first|refine Zhg (Zat rfl) ?_|refine Zhg (Zar rfl) ?_
  first|refine Zhg (Zat rfl) ?_|refine Zhg (Zar rfl) ?_
  refine Zhg (Zns (h := n) rfl rfl rfl (by omega) h0) ?_
  first|refine Zhg (Za2 rfl) ?_|refine Zhg (Zas rfl) ?_
  refine Zg3 ?_
  refine Ct.o ?_
  refine Zgb ?_
  first|refine Zhg (Zav rfl) ?_|refine Zhg (Zar rfl) ?_
  first|refine Zhg (Zav rfl) ?_|refine Zhg (Zar rfl) ?_
  refine Zhg (Zba rfl) ?_
  first|refine Zhg (Zl8 rfl) ?_|refine Zhg (Zce rfl) ?_
  refine Zhp rfl qH rfl ?_
  first|refine Zhg (Zat rfl) ?_|refine Zhg (Zar rfl) ?_
  first|refine Zhg (Zna (l := n) (h := len) rfl qB qB) ?_|refine Zhg (Zmz (l := n) (h := len) rfl qB qB) ?_
  refine Zhg (Zba rfl) ?_
  first|refine Zhg (Zl8 rfl) ?_|refine Zhg (Zce rfl) ?_
  refine Zhw rfl rfl qR qZ rfl ?_
  refine Zg3 ?_
  refine Ct.o ?_
  refine Zgb ?_
  first|refine Zhg (Zaw rfl) ?_|refine Zhg (Zar rfl) ?_
  first|refine Zhg (Za2 rfl) ?_|refine Zhg (Zas rfl) ?_
  refine Zg3 ?_
  refine Ct.o ?_
  refine rx1 (Zhc rfl (Zg7)) ?_
  exact ⟨_, ⟨rfl, rfl⟩, qI⟩
theorem u64_x {p g o len c : Nat} (l : List Byte) (hl : o + 8 ≤ l.length) (hn : 8 ≤ len) (hc : 8 < c) (hcm : c ≤ 9223372036854775807) (hlc : len ≤ c) :
    Con Tryz.prog 31 [.pointer (some ⟨p, 0, none⟩)] [cl p (rdc g o len c) 75, cl g (l.map u8b).toArray 5] (fun r M => r = u64b (lowB 64 ((l.drop o).take 8)) ∧ M = [cl p (rdc g (o + 8) (len - 8) (c - 8)) 75, cl g (l.map u8b).toArray 5]) := by
  have hll : ((l.drop o).take 8).length = 8 := by simp; omega
  refine fn_x Tryz.func31 rfl rfl rfl Tryz.mixed (by kernel_rfl) ?_
  intro w0
  refine Ct.o ?_
  refine Zgb ?_
  first|refine Zhg (Zaz rfl) ?_|refine Zhg (Zas rfl) ?_
  refine Zg3 ?_
  refine Ct.o ?_
  refine Zgb ?_
  first|refine Zhg (Zav rfl) ?_|refine Zhg (Zar rfl) ?_
  refine Zh8 rfl (by kernel_rfl) (take_x (n := 8) hn hc (by omega) hcm hlc) rfl qT ?_
  rintro _ _ ⟨rfl, rfl⟩
  refine Zg2 qA ?_
  refine Zh8 rfl (by kernel_rfl) (low64_x (L := [cl g (l.map u8b).toArray 5]) (b := (l.drop o).take 8) (bs_piece (o := o) (n := 8) (c := 8) .here hl (by omega) (by omega)) (by omega)) rfl qT ?_
  rintro _ _ ⟨rfl, rfl⟩
  refine Zg2 qA ?_
  first|refine Zhg (Zaz rfl) ?_|refine Zhg (Zas rfl) ?_
  refine Zg3 ?_
  refine Ct.o ?_
  refine rx1 (Zg9 rfl (Zg7)) ?_
  exact ⟨_, ⟨rfl, rfl⟩, qI⟩
theorem u32_x {p g o len c : Nat} (l : List Byte) (hl : o + 4 ≤ l.length) (hn : 4 ≤ len) (hc : 4 < c) (hcm : c ≤ 9223372036854775807) (hlc : len ≤ c) :
    Con Tryz.prog 32 [.pointer (some ⟨p, 0, none⟩)] [cl p (rdc g o len c) 75, cl g (l.map u8b).toArray 5] (fun r M => r = u32b (lowB 32 ((l.drop o).take 4)) ∧ M = [cl p (rdc g (o + 4) (len - 4) (c - 4)) 75, cl g (l.map u8b).toArray 5]) := by
  have hll : ((l.drop o).take 4).length = 4 := by simp; omega
  refine fn_x Tryz.func32 rfl rfl rfl Tryz.mixed (by kernel_rfl) ?_
  intro w0
  refine Ct.o ?_
  refine Zgb ?_
  first|refine Zhg (Zaz rfl) ?_|refine Zhg (Zas rfl) ?_
  refine Zg3 ?_
  refine Ct.o ?_
  refine Zgb ?_
  first|refine Zhg (Zav rfl) ?_|refine Zhg (Zar rfl) ?_
  refine Zh8 rfl (by kernel_rfl) (take_x (n := 4) hn hc (by omega) hcm hlc) rfl qT ?_
  rintro _ _ ⟨rfl, rfl⟩
  refine Zg2 qA ?_
  refine Zh8 rfl (by kernel_rfl) (low32_x (L := [cl g (l.map u8b).toArray 5]) (b := (l.drop o).take 4) (bs_piece (o := o) (n := 4) (c := 4) .here hl (by omega) (by omega)) (by omega)) rfl qT ?_
  rintro _ _ ⟨rfl, rfl⟩
  refine Zg2 qA ?_
  first|refine Zhg (Zaz rfl) ?_|refine Zhg (Zas rfl) ?_
  refine Zg3 ?_
  refine Ct.o ?_
  refine rx1 (Zg9 rfl (Zg7)) ?_
  exact ⟨_, ⟨rfl, rfl⟩, qI⟩
theorem rerr_x {p g o len c : Nat} : Con Tryz.prog 33 [.pointer (some ⟨p, 0, none⟩)] [cl p (rdc g o len c) 75] (fun r M => r = nvv 0 ∧ M = [cl p (rdc g o len c) 75]) := by
  refine fn_x Tryz.func33 rfl rfl rfl Tryz.mixed (by kernel_rfl) ?_
  intro w0
  refine Ct.o ?_
  refine Zgb ?_
  first|refine Zhg (Zaz rfl) ?_|refine Zhg (Zas rfl) ?_
  refine Zg3 ?_
  refine Ct.o ?_
  refine Zgb ?_
  first|refine Zhg (Zav rfl) ?_|refine Zhg (Zar rfl) ?_
  refine Zhg (Zca rfl rfl) ?_
  refine Zhn 4 rfl (rfl) ?_
  refine Zg3 ?_
  refine Ct.o ?_
  refine Zgf rfl ?_
  refine Ct.o ?_
  refine Zgb ?_
  first|refine Zhg (Zav rfl) ?_|refine Zhg (Zar rfl) ?_
  refine Zhg (Zba rfl) ?_
  first|refine Zhg (Zl8 rfl) ?_|refine Zhg (Zce rfl) ?_
  refine Zhp rfl qH rfl ?_
  first|refine Zhg (Zaz rfl) ?_|refine Zhg (Zas rfl) ?_
  refine Zg3 ?_
  refine Ct.o ?_
  refine rx1 (Zg9 rfl (Zg7)) ?_
  exact ⟨_, ⟨rfl, rfl⟩, qI⟩
end Go.Sl

/- tag: numbers of 64 bits; products and sums of 128 bits. -/
set_option maxHeartbeats 4000000
set_option maxRecDepth 10000
set_option linter.unusedVariables false
set_option linter.unusedSimpArgs false
namespace Go.Sl
open Go Go.Proofs
attribute [local irreducible] cl pt own old pur ex all den denOps denS xOps xC cX CX xthen xblk xcut xloop xgo xng retX resX Calls PV Rd Con
def carry (x y c : BitVec 64) : BitVec 64 := BitVec.ofNat 64 ((x.toNat + y.toNat + c.toNat) / 18446744073709551616)
def borrow (x y c : BitVec 64) : BitVec 64 := if x.toNat < y.toNat + c.toNat then 1#64 else 0#64
theorem ext_add64 (x y c : BitVec 64) (hc : c.toNat ≤ 1) : extv Tryz.prog 72 [u64b x, u64b y, u64b c] (.tuple #[u64b (x + y + c), u64b (carry x y c)]) := by
  intro w
  show (callFunc _ #[u64b x, u64b y, u64b c]).run _ w = _
  rw [run_callFunc_extern Tryz.func72 (by kernel_rfl) (by kernel_rfl) (by kernel_rfl) (e := add64Entry) (by kernel_rfl), run_add64 _ _ _ (by omega) (by omega) (by omega) (by omega)]
  simp only [Result.andThen]
  have hx := x.isLt; have hy := y.isLt; have hz := c.isLt
  have e1 : ((x + y + c).toNat : Int) = (x.toNat + y.toNat + c.toNat) % 18446744073709551616 := by simp only [BitVec.toNat_add]; omega
  have e2 : ((carry x y c).toNat : Int) = (x.toNat + y.toNat + c.toNat) / 18446744073709551616 := by simp only [carry, BitVec.toNat_ofNat]; omega
  rw [← e1, ← e2]
def sub64E : Array Value → Sem Value := fun args => do
  let (x, y, b) ← Extern.MathBitsCarry.three "Sub64" args
  pure (Extern.MathBitsCarry.pair ((x + Extern.MathBitsCarry.m64 - y - b) % Extern.MathBitsCarry.m64) (if x < y + b then 1 else 0))
theorem run_sub64E {P : Program} (x y b : Nat) (hb : b ≤ 1) (w : World) :
    (sub64E #[.int .u64 x, .int .u64 y, .int .u64 b]).run P w =
      .ok (.tuple #[.int .u64 (((x + 18446744073709551616 - y - b) % 18446744073709551616 : Nat) : Int), .int .u64 ((if x < y + b then 1 else 0 : Nat) : Int)]) w := by
  have : b = 0 ∨ b = 1 := by omega
  rcases this with rfl|rfl <;> rfl
theorem ext_sub64 (x y c : BitVec 64) (hc : c.toNat ≤ 1) : extv Tryz.prog 71 [u64b x, u64b y, u64b c] (.tuple #[u64b (x - y - c), u64b (borrow x y c)]) := by
  intro w
  show (callFunc _ #[u64b x, u64b y, u64b c]).run _ w = _
  rw [run_callFunc_extern Tryz.func71 (by kernel_rfl) (by kernel_rfl) (by kernel_rfl) (e := sub64E) (by kernel_rfl), run_sub64E _ _ _ hc]
  simp only [Result.andThen]
  have hx := x.isLt; have hy := y.isLt; have hz := c.isLt
  have e1 : (x - y - c).toNat = (x.toNat + 18446744073709551616 - y.toNat - c.toNat) % 18446744073709551616 := by simp only [BitVec.toNat_sub]; omega
  have e2 : (borrow x y c).toNat = if x.toNat < y.toNat + c.toNat then 1 else 0 := by unfold borrow; split <;> rfl
  rw [← e1, ← e2]
/-- Eight bytes as a number, the lowest first. -/
def wordB (b : List (BitVec 8)) : BitVec 64 := b.foldr (fun x a => a <<< 8 ||| x.setWidth 64) 0#64
theorem word_c (b : List (BitVec 8)) (hb : b.length = 8) : Con Tryz.prog 69 [.agg (b.map u8b).toArray] [] (fun v M => v = u64b (wordB b) ∧ M = []) := by
  refine fn_x Tryz.func69 rfl rfl rfl Tryz.mixed (by kernel_rfl) ?_
  intro w0
  refine Ct.o ?_
  refine Zgb ?_
  refine Zh5 rfl ?_; intro b1
  first|refine Zhg (Zaz rfl) ?_|refine Zhg (Zas rfl) ?_
  refine Zg3 ?_
  refine Ct.o ?_
  refine Zgb ?_
  first|refine Zhg (Zaz rfl) ?_|refine Zhg (Zas rfl) ?_
  refine Zg3 ?_
  refine Ct.o ?_
  refine Zgb ?_
  first|refine Zhg (Zaz rfl) ?_|refine Zhg (Zas rfl) ?_
  refine Zg3 ?_
  refine Ct.o ?_
  refine Zgo [(3, 15)] (by kernel_rfl) (fun i : Nat => i ≤ 8) (fun _ => [cl b1 (b.map u8b).toArray 111]) (fun i => [(3, u64b (wordB (b.drop i))), (4, .int .i64 ((i : Int) - 1))]) (fun i => i) 8 (by omega) qI ⟨by rw [List.drop_of_length_le (by omega)]; rfl, rfl, trivial⟩ ?_
  intro i u hi
  refine Ct.o ?_
  refine Zgb ?_
  first|refine Zhg (Zat rfl) ?_|refine Zhg (Zar rfl) ?_
  first|refine Zhg (Zmi (b := 0) rfl rfl) ?_|refine Zhg (Zbq rfl rfl) ?_
  refine Zg3 ?_
  refine Ct.o ?_
  refine Zgg rfl (fun hB => ?_) (fun hB => ?_)
  · obtain ⟨k, rfl⟩ : ∃ k, i = k + 1 := ⟨i - 1, by omega⟩
    refine Ct.o ?_
    refine Zgb ?_
    first|refine Zhg (Zat rfl) ?_|refine Zhg (Zar rfl) ?_
    refine Zhg (Zlj (m := 8) rfl rfl) ?_
    first|refine Zhg (Zat rfl) ?_|refine Zhg (Zar rfl) ?_
    first|refine Zhg (Zl5 (n := k) rfl (int_eq (by push_cast; omega))) ?_|refine Zhg (Zl3 (n := k) rfl (int_eq (by push_cast; omega))) ?_
    refine Zhp rfl qH (getL (by omega)) ?_
    refine Zhg (Zjx rfl) ?_
    refine Zhg (Zlg rfl rfl) ?_
    first|refine Zhg (Zaz rfl) ?_|refine Zhg (Zas rfl) ?_
    refine Zg3 ?_
    refine Ct.o ?_
    refine Zgb ?_
    first|refine Zhg (Zat rfl) ?_|refine Zhg (Zar rfl) ?_
    first|refine Zhg (Zmb (b := 1) rfl rfl) ?_|refine Zhg (Zbh rfl rfl) ?_
    first|refine Zhg (Zaz rfl) ?_|refine Zhg (Zas rfl) ?_
    refine Zg3 ?_
    refine Ct.o ?_
    refine Zgl k qO qO qI ⟨?_, ?_, trivial⟩
    · rw [List.drop_eq_getElem_cons (show k < b.length by omega)]; rfl
    · show Value.int _ _ = _; congr 1; omega
  · have : i = 0 := by omega
    subst this
    refine Ct.o ?_
    refine Zgb ?_
    first|refine Zhg (Zat rfl) ?_|refine Zhg (Zar rfl) ?_
    first|refine Zhg (Zaz rfl) ?_|refine Zhg (Zas rfl) ?_
    refine Zg3 ?_
    refine Ct.o ?_
    refine rx1 (Zg9 rfl (Zg7)) ?_
    exact ⟨_, ⟨rfl, rfl⟩, by exact Imp.arr (by repeat (first|exact Arr.nil|exact Arr.stop|refine Arr.cons (by repeat constructor) ?_|refine Arr.skip ?_))⟩
theorem carry_le (x y c : BitVec 64) (hc : c.toNat ≤ 1) : (carry x y c).toNat ≤ 1 := by
  have hx := x.isLt; have hy := y.isLt
  simp only [carry, BitVec.toNat_ofNat]; omega
theorem borrow_le (x y c : BitVec 64) : (borrow x y c).toNat ≤ 1 := by
  unfold borrow; split <;> simp
def mulHi (x y : BitVec 64) : BitVec 64 := BitVec.ofNat 64 (x.toNat * y.toNat / 18446744073709551616)
theorem mulHi_eq (x y : BitVec 64) : (x >>> 32) * (y >>> 32) + (((x >>> 32) * (y &&& 4294967295#64) + ((x &&& 4294967295#64) * (y &&& 4294967295#64)) >>> 32) >>> 32) +
    ((((x >>> 32) * (y &&& 4294967295#64) + ((x &&& 4294967295#64) * (y &&& 4294967295#64)) >>> 32) &&& 4294967295#64) + (x &&& 4294967295#64) * (y >>> 32)) >>> 32 = mulHi x y := by
  have hx := x.isLt; have hy := y.isLt
  obtain ⟨h1, h2, h3, h4⟩ := Lib.mul64_hi x.toNat y.toNat hx hy
  have m : ∀ a : BitVec 64, (a &&& 4294967295#64).toNat = a.toNat % 4294967296 := fun a => by
    rw [BitVec.toNat_and]; exact Nat.and_two_pow_sub_one_eq_mod a.toNat 32
  have s : ∀ a : BitVec 64, (a >>> 32).toNat = a.toNat / 4294967296 := fun a => by
    rw [BitVec.toNat_ushiftRight, Nat.shiftRight_eq_div_pow]
  have ha := Lib.half_mul_le (a := x.toNat / 4294967296) (b := y.toNat / 4294967296) (by omega) (by omega)
  have hb := Lib.half_mul_le (a := x.toNat / 4294967296) (b := y.toNat % 4294967296) (by omega) (by omega)
  have hc := Lib.half_mul_le (a := x.toNat % 4294967296) (b := y.toNat / 4294967296) (by omega) (by omega)
  have hd := Lib.half_mul_le (a := x.toNat % 4294967296) (b := y.toNat % 4294967296) (by omega) (by omega)
  apply BitVec.eq_of_toNat_eq
  simp only [BitVec.toNat_add, BitVec.toNat_mul, m, s, mulHi, BitVec.toNat_ofNat]
  rw [← h4]
  generalize x.toNat / 4294967296 * (y.toNat / 4294967296) = a at *
  generalize x.toNat / 4294967296 * (y.toNat % 4294967296) = b at *
  generalize x.toNat % 4294967296 * (y.toNat / 4294967296) = c at *
  generalize x.toNat % 4294967296 * (y.toNat % 4294967296) = d at *
  omega
theorem mul64_c (x y : BitVec 64) : Con Tryz.prog 100 [u64b x, u64b y] [] (fun v M => v = .tuple #[u64b (mulHi x y), u64b (x * y)] ∧ M = []) := by
  refine fn_x Tryz.func100 rfl rfl rfl Tryz.mixed (by kernel_rfl) ?_
  intro w0
  refine Ct.o ?_
  refine Zgb ?_
  first|refine Zhg (Zaz rfl) ?_|refine Zhg (Zas rfl) ?_
  first|refine Zhg (Zaz rfl) ?_|refine Zhg (Zas rfl) ?_
  refine Zg3 ?_
  refine Ct.o ?_
  refine Zgb ?_
  first|refine Zhg (Zat rfl) ?_|refine Zhg (Zar rfl) ?_
  refine Zhg (Zlf (y := 4294967295#64) rfl rfl) ?_
  first|refine Zhg (Zaz rfl) ?_|refine Zhg (Zas rfl) ?_
  refine Zg3 ?_
  refine Ct.o ?_
  refine Zgb ?_
  first|refine Zhg (Zat rfl) ?_|refine Zhg (Zar rfl) ?_
  refine Zhg (Zlk (m := 32) rfl rfl) ?_
  first|refine Zhg (Zaz rfl) ?_|refine Zhg (Zas rfl) ?_
  refine Zg3 ?_
  refine Ct.o ?_
  refine Zgb ?_
  first|refine Zhg (Zat rfl) ?_|refine Zhg (Zar rfl) ?_
  refine Zhg (Zlf (y := 4294967295#64) rfl rfl) ?_
  first|refine Zhg (Zaz rfl) ?_|refine Zhg (Zas rfl) ?_
  refine Zg3 ?_
  refine Ct.o ?_
  refine Zgb ?_
  first|refine Zhg (Zat rfl) ?_|refine Zhg (Zar rfl) ?_
  refine Zhg (Zlk (m := 32) rfl rfl) ?_
  first|refine Zhg (Zaz rfl) ?_|refine Zhg (Zas rfl) ?_
  refine Zg3 ?_
  refine Ct.o ?_
  refine Zgb ?_
  first|refine Zhg (Zat rfl) ?_|refine Zhg (Zar rfl) ?_
  first|refine Zhg (Zat rfl) ?_|refine Zhg (Zar rfl) ?_
  refine Zhg (Zle rfl rfl) ?_
  first|refine Zhg (Zaz rfl) ?_|refine Zhg (Zas rfl) ?_
  refine Zg3 ?_
  refine Ct.o ?_
  refine Zgb ?_
  first|refine Zhg (Zat rfl) ?_|refine Zhg (Zar rfl) ?_
  first|refine Zhg (Zat rfl) ?_|refine Zhg (Zar rfl) ?_
  refine Zhg (Zle rfl rfl) ?_
  first|refine Zhg (Zat rfl) ?_|refine Zhg (Zar rfl) ?_
  refine Zhg (Zlk (m := 32) rfl rfl) ?_
  refine Zhg (Zlc rfl rfl) ?_
  first|refine Zhg (Zaz rfl) ?_|refine Zhg (Zas rfl) ?_
  refine Zg3 ?_
  refine Ct.o ?_
  refine Zgb ?_
  first|refine Zhg (Zat rfl) ?_|refine Zhg (Zar rfl) ?_
  refine Zhg (Zlf (y := 4294967295#64) rfl rfl) ?_
  first|refine Zhg (Zaz rfl) ?_|refine Zhg (Zas rfl) ?_
  refine Zg3 ?_
  refine Ct.o ?_
  refine Zgb ?_
  first|refine Zhg (Zat rfl) ?_|refine Zhg (Zar rfl) ?_
  refine Zhg (Zlk (m := 32) rfl rfl) ?_
  first|refine Zhg (Zaz rfl) ?_|refine Zhg (Zas rfl) ?_
  refine Zg3 ?_
  refine Ct.o ?_
  refine Zgb ?_
  first|refine Zhg (Zat rfl) ?_|refine Zhg (Zar rfl) ?_
  first|refine Zhg (Zat rfl) ?_|refine Zhg (Zar rfl) ?_
  first|refine Zhg (Zat rfl) ?_|refine Zhg (Zar rfl) ?_
  refine Zhg (Zle rfl rfl) ?_
  refine Zhg (Zlc rfl rfl) ?_
  first|refine Zhg (Zaz rfl) ?_|refine Zhg (Zas rfl) ?_
  refine Zg3 ?_
  refine Ct.o ?_
  refine Zgb ?_
  first|refine Zhg (Zat rfl) ?_|refine Zhg (Zar rfl) ?_
  first|refine Zhg (Zat rfl) ?_|refine Zhg (Zar rfl) ?_
  refine Zhg (Zle rfl rfl) ?_
  first|refine Zhg (Zat rfl) ?_|refine Zhg (Zar rfl) ?_
  refine Zhg (Zlc rfl rfl) ?_
  first|refine Zhg (Zat rfl) ?_|refine Zhg (Zar rfl) ?_
  refine Zhg (Zlk (m := 32) rfl rfl) ?_
  refine Zhg (Zlc rfl rfl) ?_
  first|refine Zhg (Zaz rfl) ?_|refine Zhg (Zas rfl) ?_
  refine Zg3 ?_
  refine Ct.o ?_
  refine Zgb ?_
  first|refine Zhg (Zat rfl) ?_|refine Zhg (Zar rfl) ?_
  first|refine Zhg (Zat rfl) ?_|refine Zhg (Zar rfl) ?_
  refine Zhg (Zle rfl rfl) ?_
  first|refine Zhg (Zaz rfl) ?_|refine Zhg (Zas rfl) ?_
  refine Zg3 ?_
  refine Ct.o ?_
  rw [mulHi_eq]
  refine rx2 (Zg9 rfl (Zg9 rfl (Zg7))) ?_
  exact ⟨_, ⟨rfl, rfl⟩, by exact Imp.arr (by repeat (first|exact Arr.nil|exact Arr.stop|refine Arr.cons (by repeat constructor) ?_|refine Arr.skip ?_))⟩
abbrev W128 := BitVec 64 × BitVec 64
abbrev W192 := BitVec 64 × BitVec 64 × BitVec 64
def wA (x : W128) : Array Value := #[u64b x.1, u64b x.2]
def hA (x : W192) : Array Value := #[u64b x.1, u64b x.2.1, u64b x.2.2]
def mulW (x y : BitVec 64) : W128 := (x * y, mulHi x y)
theorem mul_c (x y : BitVec 64) : Con Tryz.prog 95 [u64b x, u64b y] [] (fun v M => v = .agg (wA (mulW x y)) ∧ M = []) := by
  refine fn_x Tryz.func95 rfl rfl rfl Tryz.mixed (by kernel_rfl) ?_
  intro w0
  refine Ct.o ?_
  refine Zgb ?_
  refine Zhz (cs := #[u64b 0#64, u64b 0#64]) rfl ?_; intro b4
  refine Zg3 ?_
  refine Ct.o ?_
  refine Zgb ?_
  first|refine Zhg (Zat rfl) ?_|refine Zhg (Zar rfl) ?_
  first|refine Zhg (Zat rfl) ?_|refine Zhg (Zar rfl) ?_
  refine Zh8 rfl (by kernel_rfl) (mul64_c _ _) rfl qT ?_
  rintro _ _ ⟨rfl, rfl⟩
  refine Zg2 qA ?_
  first|refine Zhg (Zmm rfl) ?_|refine Zhg (Zar rfl) ?_
  refine Zhg (Zco rfl rfl) ?_
  refine Zhg (Zco rfl rfl) ?_
  first|refine Zhg (Zaz rfl) ?_|refine Zhg (Zas rfl) ?_
  first|refine Zhg (Zaz rfl) ?_|refine Zhg (Zas rfl) ?_
  refine Zg3 ?_
  refine Ct.o ?_
  refine Zgb ?_
  first|refine Zhg (Zat rfl) ?_|refine Zhg (Zar rfl) ?_
  first|refine Zhg (Zat rfl) ?_|refine Zhg (Zar rfl) ?_
  refine Zhg (Zdm (cs := #[.int .u64 _, .int .u64 _]) rfl) ?_
  first|refine Zhy rfl rfl qR qZ qN qZ ?_|refine Zhx rfl rfl qR qZ qN qZ rfl ?_
  refine Zg3 ?_
  refine Ct.o ?_
  refine rx1 (Zhe rfl qH qZ (Zg7)) ?_
  exact ⟨_, ⟨rfl, rfl⟩, by exact Imp.arr (by repeat (first|exact Arr.nil|exact Arr.stop|refine Arr.cons (by repeat constructor) ?_|refine Arr.skip ?_))⟩
def addW (x y : W128) : W128 := (x.1 + y.1 + 0#64, x.2 + y.2 + carry x.1 y.1 0#64)
theorem add_c (x y : W128) : Con Tryz.prog 96 [.agg (wA x), .agg (wA y)] [] (fun v M => v = .agg (wA (addW x y)) ∧ M = []) := by
  refine fn_x Tryz.func96 rfl rfl rfl Tryz.mixed (by kernel_rfl) ?_
  intro w0
  refine Ct.o ?_
  refine Zgb ?_
  refine Zh5 rfl ?_; intro b2
  refine Zh5 rfl ?_; intro b3
  refine Zhz (cs := #[u64b 0#64, u64b 0#64]) rfl ?_; intro b4
  refine Zg3 ?_
  refine Ct.o ?_
  refine Zgb ?_
  first|refine Zhg (Zl8 rfl) ?_|refine Zhg (Zce rfl) ?_
  refine Zhp rfl qH rfl ?_
  first|refine Zhg (Zl8 rfl) ?_|refine Zhg (Zce rfl) ?_
  refine Zhp rfl qH rfl ?_
  refine Zhg (Zh9 rfl (ext_add64 _ _ 0#64 (by decide)) rfl) ?_
  first|refine Zhg (Zmm rfl) ?_|refine Zhg (Zar rfl) ?_
  refine Zhg (Zco rfl rfl) ?_
  refine Zhg (Zco rfl rfl) ?_
  first|refine Zhg (Zaz rfl) ?_|refine Zhg (Zas rfl) ?_
  first|refine Zhg (Zaz rfl) ?_|refine Zhg (Zas rfl) ?_
  refine Zg3 ?_
  refine Ct.o ?_
  refine Zgb ?_
  first|refine Zhg (Zl8 rfl) ?_|refine Zhg (Zce rfl) ?_
  refine Zhp rfl qH rfl ?_
  first|refine Zhg (Zl8 rfl) ?_|refine Zhg (Zce rfl) ?_
  refine Zhp rfl qH rfl ?_
  first|refine Zhg (Zat rfl) ?_|refine Zhg (Zar rfl) ?_
  refine Zhg (Zh9 rfl (ext_add64 _ _ _ (carry_le _ _ _ (by decide))) rfl) ?_
  first|refine Zhg (Zmm rfl) ?_|refine Zhg (Zar rfl) ?_
  refine Zhg (Zco rfl rfl) ?_
  refine Zhg (Zco rfl rfl) ?_
  first|refine Zhg (Zaz rfl) ?_|refine Zhg (Zas rfl) ?_
  first|refine Zhg (Zaz rfl) ?_|refine Zhg (Zas rfl) ?_
  refine Zg3 ?_
  refine Ct.o ?_
  refine Zgb ?_
  first|refine Zhg (Zat rfl) ?_|refine Zhg (Zar rfl) ?_
  first|refine Zhg (Zat rfl) ?_|refine Zhg (Zar rfl) ?_
  refine Zhg (Zdm (cs := #[.int .u64 _, .int .u64 _]) rfl) ?_
  first|refine Zhy rfl rfl qR qZ qN qZ ?_|refine Zhx rfl rfl qR qZ qN qZ rfl ?_
  refine Zg3 ?_
  refine Ct.o ?_
  refine rx1 (Zhe rfl qH qZ (Zg7)) ?_
  exact ⟨_, ⟨rfl, rfl⟩, by exact Imp.arr (by repeat (first|exact Arr.nil|exact Arr.stop|refine Arr.cons (by repeat constructor) ?_|refine Arr.skip ?_))⟩
def plusW (h : W192) (x : W128) : W192 := (h.1 + x.1 + 0#64, h.2.1 + x.2 + carry h.1 x.1 0#64, h.2.2 + carry h.2.1 x.2 (carry h.1 x.1 0#64))
theorem plus_c (h : W192) (x : W128) : Con Tryz.prog 97 [.agg (hA h), .agg (wA x)] [] (fun v M => v = .agg (hA (plusW h x)) ∧ M = []) := by
  refine fn_x Tryz.func97 rfl rfl rfl Tryz.mixed (by kernel_rfl) ?_
  intro w0
  refine Ct.o ?_
  refine Zgb ?_
  refine Zh5 rfl ?_; intro b2
  refine Zh5 rfl ?_; intro b3
  refine Zhz (cs := #[u64b 0#64, u64b 0#64, u64b 0#64]) rfl ?_; intro b4
  refine Zg3 ?_
  refine Ct.o ?_
  refine Zgb ?_
  first|refine Zhg (Zaz rfl) ?_|refine Zhg (Zas rfl) ?_
  refine Zg3 ?_
  refine Ct.o ?_
  refine Zgb ?_
  first|refine Zhg (Zl5 (n := 0) rfl rfl) ?_|refine Zhg (Zl3 (n := 0) rfl rfl) ?_
  refine Zhp rfl qH rfl ?_
  first|refine Zhg (Zl8 rfl) ?_|refine Zhg (Zce rfl) ?_
  refine Zhp rfl qH rfl ?_
  refine Zhg (Zh9 rfl (ext_add64 _ _ 0#64 (by decide)) rfl) ?_
  first|refine Zhg (Zmm rfl) ?_|refine Zhg (Zar rfl) ?_
  refine Zhg (Zco rfl rfl) ?_
  refine Zhg (Zco rfl rfl) ?_
  first|refine Zhg (Zl5 (n := 0) rfl rfl) ?_|refine Zhg (Zl3 (n := 0) rfl rfl) ?_
  refine Zht rfl rfl qR qZ rfl ?_
  first|refine Zhg (Zaz rfl) ?_|refine Zhg (Zas rfl) ?_
  refine Zg3 ?_
  refine Ct.o ?_
  refine Zgb ?_
  first|refine Zhg (Zl5 (n := 1) rfl rfl) ?_|refine Zhg (Zl3 (n := 1) rfl rfl) ?_
  refine Zhp rfl qH rfl ?_
  first|refine Zhg (Zl8 rfl) ?_|refine Zhg (Zce rfl) ?_
  refine Zhp rfl qH rfl ?_
  first|refine Zhg (Zat rfl) ?_|refine Zhg (Zar rfl) ?_
  refine Zhg (Zh9 rfl (ext_add64 _ _ _ (carry_le _ _ _ (by decide))) rfl) ?_
  first|refine Zhg (Zmm rfl) ?_|refine Zhg (Zar rfl) ?_
  refine Zhg (Zco rfl rfl) ?_
  refine Zhg (Zco rfl rfl) ?_
  first|refine Zhg (Zl5 (n := 1) rfl rfl) ?_|refine Zhg (Zl3 (n := 1) rfl rfl) ?_
  refine Zht rfl rfl qR qZ rfl ?_
  first|refine Zhg (Zaz rfl) ?_|refine Zhg (Zas rfl) ?_
  refine Zg3 ?_
  refine Ct.o ?_
  refine Zgb ?_
  first|refine Zhg (Zl5 (n := 2) rfl rfl) ?_|refine Zhg (Zl3 (n := 2) rfl rfl) ?_
  refine Zhp rfl qH rfl ?_
  first|refine Zhg (Zat rfl) ?_|refine Zhg (Zar rfl) ?_
  refine Zhg (Zlc rfl rfl) ?_
  first|refine Zhg (Zl5 (n := 2) rfl rfl) ?_|refine Zhg (Zl3 (n := 2) rfl rfl) ?_
  refine Zht rfl rfl qR qZ rfl ?_
  refine Zg3 ?_
  refine Ct.o ?_
  refine Zgb ?_
  first|refine Zhr rfl qH qZ ?_|refine Zhq rfl qH qZ rfl ?_
  first|refine Zhy rfl rfl qR qZ qN qZ ?_|refine Zhx rfl rfl qR qZ qN qZ rfl ?_
  refine Zg3 ?_
  refine Ct.o ?_
  refine rx1 (Zhe rfl qH qZ (Zg7)) ?_
  exact ⟨_, ⟨rfl, rfl⟩, by exact Imp.arr (by repeat (first|exact Arr.nil|exact Arr.stop|refine Arr.cons (by repeat constructor) ?_|refine Arr.skip ?_))⟩
def timesW (h : W192) (r : W128) : W192 :=
  let m0 := mulW h.1 r.1
  let m1 := addW (mulW h.2.1 r.1) (mulW h.1 r.2)
  let m2 := addW (mulW h.2.2 r.1) (mulW h.2.1 r.2)
  let m3 := mulW h.2.2 r.2
  let t1 := m1.1 + m0.2 + 0#64
  let c1 := carry m1.1 m0.2 0#64
  let t2 := m2.1 + m1.2 + c1
  let c2 := carry m2.1 m1.2 c1
  let t3 := m3.1 + m2.2 + c2
  let f : W128 := (t2 &&& ~~~ 3#64, t3)
  plusW (plusW (m0.1, t1, t2 &&& 3#64) f) (f.1 >>> 2 ||| f.2 <<< 62, f.2 >>> 2)
theorem times_c (h : W192) (r : W128) : Con Tryz.prog 86 [.agg (hA h), .agg (wA r)] [] (fun v M => v = .agg (hA (timesW h r)) ∧ M = []) := by
  refine fn_x Tryz.func86 rfl rfl rfl Tryz.mixed (by kernel_rfl) ?_
  intro w0
  refine Ct.o ?_
  refine Zgb ?_
  refine Zh5 rfl ?_; intro b2
  refine Zh5 rfl ?_; intro b3
  refine Zhz (cs := #[u64b 0#64, u64b 0#64, u64b 0#64]) rfl ?_; intro b4
  refine Zg3 ?_
  refine Ct.o ?_
  refine Zgb ?_
  first|refine Zhg (Zl5 (n := 0) rfl rfl) ?_|refine Zhg (Zl3 (n := 0) rfl rfl) ?_
  refine Zhp rfl qH rfl ?_
  first|refine Zhg (Zl5 (n := 0) rfl rfl) ?_|refine Zhg (Zl3 (n := 0) rfl rfl) ?_
  refine Zhp rfl qH rfl ?_
  refine Zh8 rfl (by kernel_rfl) (mul_c _ _) rfl qT ?_
  rintro _ _ ⟨rfl, rfl⟩
  refine Zg2 qA ?_
  refine Zhz (cs := #[u64b 0#64, u64b 0#64]) rfl ?_; intro b5
  first|refine Zhy rfl rfl qR qZ qN qZ ?_|refine Zhx rfl rfl qR qZ qN qZ rfl ?_
  refine Zg3 ?_
  refine Ct.o ?_
  refine Zij (_) [3, 4, 6, 8, 9, 10, 11] (.q 0 (.q 2 (.q 5 (.q 7 (.r 1 (.r 3 (.r 6 (.r 8 (.e 4 true (.e 9 true (.e 10 true (.a 11 (.e 12 false .nil))))))))))))) (by kernel_rfl) (by kernel_rfl) (Imp.refl _) ?_
  first|refine Zim rfl (Zl5 (n := 1) rfl rfl) ?_|refine Zim rfl (Zl3 (n := 1) rfl rfl) ?_
  first|refine Zim rfl (Zl5 (n := 0) rfl rfl) ?_|refine Zim rfl (Zl3 (n := 0) rfl rfl) ?_
  first|refine Zim rfl (Zl5 (n := 0) rfl rfl) ?_|refine Zim rfl (Zl3 (n := 0) rfl rfl) ?_
  first|refine Zim rfl (Zl5 (n := 1) rfl rfl) ?_|refine Zim rfl (Zl3 (n := 1) rfl rfl) ?_
  refine Ziv rfl rfl qH rfl ?_
  refine Ziv rfl rfl qH rfl ?_
  refine Ziv rfl rfl qH rfl ?_
  refine Ziv rfl rfl qH rfl ?_
  refine Ziq rfl ?_
  refine Zh8 rfl (by kernel_rfl) (mul_c _ _) rfl qT ?_
  rintro _ _ ⟨rfl, rfl⟩
  refine Zg2 qA ?_
  refine Zg3 ⟨fun _ => Imp.arr qV, ?_⟩
  refine Ziq rfl ?_
  refine Zh8 rfl (by kernel_rfl) (mul_c _ _) rfl qT ?_
  rintro _ _ ⟨rfl, rfl⟩
  refine Zg2 qA ?_
  refine Zg3 ⟨fun _ => Imp.arr qV, ?_⟩
  refine Ziq rfl ?_
  refine Zh8 rfl (by kernel_rfl) (add_c _ _) rfl qT ?_
  rintro _ _ ⟨rfl, rfl⟩
  refine Zg2 qA ?_
  refine Zg3 ⟨fun _ => Imp.arr qV, ?_⟩
  refine Zir rfl (cs := #[u64b 0#64, u64b 0#64]) rfl ?_; intro b6
  refine Ziq rfl ?_
  first|refine Zhy rfl rfl qR qZ qN qZ ?_|refine Zhx rfl rfl qR qZ qN qZ rfl ?_
  refine Zg3 ⟨(fun hh => Bool.noConfusion hh), ?_⟩
  refine Zik ?_
  refine Ct.o ?_
  refine Zij (_) [3, 4, 6, 8, 9, 10, 11] (.q 0 (.q 2 (.q 5 (.q 7 (.r 1 (.r 3 (.r 6 (.r 8 (.e 4 true (.e 9 true (.e 10 true (.a 11 (.e 12 false .nil))))))))))))) (by kernel_rfl) (by kernel_rfl) (Imp.refl _) ?_
  first|refine Zim rfl (Zl5 (n := 2) rfl rfl) ?_|refine Zim rfl (Zl3 (n := 2) rfl rfl) ?_
  first|refine Zim rfl (Zl5 (n := 0) rfl rfl) ?_|refine Zim rfl (Zl3 (n := 0) rfl rfl) ?_
  first|refine Zim rfl (Zl5 (n := 1) rfl rfl) ?_|refine Zim rfl (Zl3 (n := 1) rfl rfl) ?_
  first|refine Zim rfl (Zl5 (n := 1) rfl rfl) ?_|refine Zim rfl (Zl3 (n := 1) rfl rfl) ?_
  refine Ziv rfl rfl qH rfl ?_
  refine Ziv rfl rfl qH rfl ?_
  refine Ziv rfl rfl qH rfl ?_
  refine Ziv rfl rfl qH rfl ?_
  refine Ziq rfl ?_
  refine Zh8 rfl (by kernel_rfl) (mul_c _ _) rfl qT ?_
  rintro _ _ ⟨rfl, rfl⟩
  refine Zg2 qA ?_
  refine Zg3 ⟨fun _ => Imp.arr qV, ?_⟩
  refine Ziq rfl ?_
  refine Zh8 rfl (by kernel_rfl) (mul_c _ _) rfl qT ?_
  rintro _ _ ⟨rfl, rfl⟩
  refine Zg2 qA ?_
  refine Zg3 ⟨fun _ => Imp.arr qV, ?_⟩
  refine Ziq rfl ?_
  refine Zh8 rfl (by kernel_rfl) (add_c _ _) rfl qT ?_
  rintro _ _ ⟨rfl, rfl⟩
  refine Zg2 qA ?_
  refine Zg3 ⟨fun _ => Imp.arr qV, ?_⟩
  refine Zir rfl (cs := #[u64b 0#64, u64b 0#64]) rfl ?_; intro b7
  refine Ziq rfl ?_
  first|refine Zhy rfl rfl qR qZ qN qZ ?_|refine Zhx rfl rfl qR qZ qN qZ rfl ?_
  refine Zg3 ⟨(fun hh => Bool.noConfusion hh), ?_⟩
  refine Zik ?_
  refine Ct.o ?_
  refine Zgb ?_
  first|refine Zhg (Zl5 (n := 2) rfl rfl) ?_|refine Zhg (Zl3 (n := 2) rfl rfl) ?_
  refine Zhp rfl qH rfl ?_
  first|refine Zhg (Zl5 (n := 1) rfl rfl) ?_|refine Zhg (Zl3 (n := 1) rfl rfl) ?_
  refine Zhp rfl qH rfl ?_
  refine Zh8 rfl (by kernel_rfl) (mul_c _ _) rfl qT ?_
  rintro _ _ ⟨rfl, rfl⟩
  refine Zg2 qA ?_
  refine Zhz (cs := #[u64b 0#64, u64b 0#64]) rfl ?_; intro b8
  first|refine Zhy rfl rfl qR qZ qN qZ ?_|refine Zhx rfl rfl qR qZ qN qZ rfl ?_
  refine Zg3 ?_
  refine Ct.o ?_
  refine Zgb ?_
  first|refine Zhg (Zl8 rfl) ?_|refine Zhg (Zce rfl) ?_
  refine Zhp rfl qH rfl ?_
  first|refine Zhg (Zaz rfl) ?_|refine Zhg (Zas rfl) ?_
  refine Zg3 ?_
  refine Ct.o ?_
  refine Zgb ?_
  first|refine Zhg (Zl8 rfl) ?_|refine Zhg (Zce rfl) ?_
  refine Zhp rfl qH rfl ?_
  first|refine Zhg (Zl8 rfl) ?_|refine Zhg (Zce rfl) ?_
  refine Zhp rfl qH rfl ?_
  refine Zhg (Zh9 rfl (ext_add64 _ _ 0#64 (by decide)) rfl) ?_
  first|refine Zhg (Zmm rfl) ?_|refine Zhg (Zar rfl) ?_
  refine Zhg (Zco rfl rfl) ?_
  refine Zhg (Zco rfl rfl) ?_
  first|refine Zhg (Zaz rfl) ?_|refine Zhg (Zas rfl) ?_
  first|refine Zhg (Zaz rfl) ?_|refine Zhg (Zas rfl) ?_
  refine Zg3 ?_
  refine Ct.o ?_
  refine Zgb ?_
  first|refine Zhg (Zl8 rfl) ?_|refine Zhg (Zce rfl) ?_
  refine Zhp rfl qH rfl ?_
  first|refine Zhg (Zl8 rfl) ?_|refine Zhg (Zce rfl) ?_
  refine Zhp rfl qH rfl ?_
  first|refine Zhg (Zat rfl) ?_|refine Zhg (Zar rfl) ?_
  refine Zhg (Zh9 rfl (ext_add64 _ _ _ (carry_le _ _ _ (by decide))) rfl) ?_
  first|refine Zhg (Zmm rfl) ?_|refine Zhg (Zar rfl) ?_
  refine Zhg (Zco rfl rfl) ?_
  refine Zhg (Zco rfl rfl) ?_
  first|refine Zhg (Zaz rfl) ?_|refine Zhg (Zas rfl) ?_
  first|refine Zhg (Zaz rfl) ?_|refine Zhg (Zas rfl) ?_
  refine Zg3 ?_
  refine Ct.o ?_
  refine Zgb ?_
  first|refine Zhg (Zl8 rfl) ?_|refine Zhg (Zce rfl) ?_
  refine Zhp rfl qH rfl ?_
  first|refine Zhg (Zl8 rfl) ?_|refine Zhg (Zce rfl) ?_
  refine Zhp rfl qH rfl ?_
  first|refine Zhg (Zat rfl) ?_|refine Zhg (Zar rfl) ?_
  refine Zhg (Zh9 rfl (ext_add64 _ _ _ (carry_le _ _ _ (carry_le _ _ _ (by decide)))) rfl) ?_
  first|refine Zhg (Zmm rfl) ?_|refine Zhg (Zar rfl) ?_
  refine Zhg (Zco rfl rfl) ?_
  refine Zhg (Zco rfl rfl) ?_
  first|refine Zhg (Zaz rfl) ?_|refine Zhg (Zas rfl) ?_
  first|refine Zhg (Zaz rfl) ?_|refine Zhg (Zas rfl) ?_
  refine Zg3 ?_
  refine Ct.o ?_
  refine Zgb ?_
  first|refine Zhg (Zat rfl) ?_|refine Zhg (Zar rfl) ?_
  first|refine Zhg (Zat rfl) ?_|refine Zhg (Zar rfl) ?_
  first|refine Zhg (Zat rfl) ?_|refine Zhg (Zar rfl) ?_
  refine Zhg (Zlf (y := 3#64) rfl rfl) ?_
  refine Zhg (Zdn (cs := #[.int .u64 _, .int .u64 _, .int .u64 _]) rfl) ?_
  refine Zhz (cs := #[u64b 0#64, u64b 0#64, u64b 0#64]) rfl ?_; intro b15
  first|refine Zhy rfl rfl qR qZ qN qZ ?_|refine Zhx rfl rfl qR qZ qN qZ rfl ?_
  refine Zg3 ?_
  refine Ct.o ?_
  refine Zgb ?_
  first|refine Zhg (Zat rfl) ?_|refine Zhg (Zar rfl) ?_
  refine Zhg (Zli (y := 3#64) rfl rfl) ?_
  first|refine Zhg (Zat rfl) ?_|refine Zhg (Zar rfl) ?_
  refine Zhg (Zdm (cs := #[.int .u64 _, .int .u64 _]) rfl) ?_
  refine Zhz (cs := #[u64b 0#64, u64b 0#64]) rfl ?_; intro b16
  first|refine Zhy rfl rfl qR qZ qN qZ ?_|refine Zhx rfl rfl qR qZ qN qZ rfl ?_
  refine Zg3 ?_
  refine Ct.o ?_
  refine Zgb ?_
  first|refine Zhr rfl qH qZ ?_|refine Zhq rfl qH qZ rfl ?_
  first|refine Zhr rfl qH qZ ?_|refine Zhq rfl qH qZ rfl ?_
  refine Zh8 rfl (by kernel_rfl) (plus_c (_, _, _) (_, _)) rfl qT ?_
  rintro _ _ ⟨rfl, rfl⟩
  refine Zg2 qA ?_
  first|refine Zhy rfl rfl qR qZ qN qZ ?_|refine Zhx rfl rfl qR qZ qN qZ rfl ?_
  refine Zg3 ?_
  refine Ct.o ?_
  refine Zgb ?_
  first|refine Zhr rfl qH qZ ?_|refine Zhq rfl qH qZ rfl ?_
  first|refine Zhg (Zl8 rfl) ?_|refine Zhg (Zce rfl) ?_
  refine Zhp rfl qH rfl ?_
  refine Zhg (Zlk (m := 2) rfl rfl) ?_
  first|refine Zhg (Zl8 rfl) ?_|refine Zhg (Zce rfl) ?_
  refine Zhp rfl qH rfl ?_
  refine Zhg (Zlj (m := 62) rfl rfl) ?_
  refine Zhg (Zlg rfl rfl) ?_
  first|refine Zhg (Zl8 rfl) ?_|refine Zhg (Zce rfl) ?_
  refine Zhp rfl qH rfl ?_
  refine Zhg (Zlk (m := 2) rfl rfl) ?_
  refine Zhg (Zdm (cs := #[.int .u64 _, .int .u64 _]) rfl) ?_
  refine Zh8 rfl (by kernel_rfl) (plus_c _ (_, _)) rfl qT ?_
  rintro _ _ ⟨rfl, rfl⟩
  refine Zg2 qA ?_
  first|refine Zhy rfl rfl qR qZ qN qZ ?_|refine Zhx rfl rfl qR qZ qN qZ rfl ?_
  refine Zg3 ?_
  refine Ct.o ?_
  refine rx1 (Zhe rfl qH qZ (Zg7)) ?_
  exact ⟨_, ⟨rfl, rfl⟩, by exact Imp.arr (by repeat (first|exact Arr.nil|exact Arr.stop|refine Arr.cons (by repeat constructor) ?_|refine Arr.skip ?_))⟩
end Go.Sl

/- tag: a poly's state, in plain Lean. -/
set_option linter.unusedVariables false
set_option linter.unusedSimpArgs false
namespace Go.Sl
open Go
structure PolyS where
  r : W128
  s : W128
  h : W192
  rest : List Byte
  used : Nat
def setU (t : PolyS) (n : Nat) : PolyS := ⟨t.r, t.s, t.h, t.rest, n⟩
def setH (t : PolyS) (h : W192) : PolyS := ⟨t.r, t.s, h, t.rest, t.used⟩
/-- The cells of a Poly. -/
def pc (t : PolyS) : Array Value :=
  (u64b t.r.1 :: u64b t.r.2 :: u64b t.s.1 :: u64b t.s.2 :: u64b t.h.1 :: u64b t.h.2.1 :: u64b t.h.2.2 :: (t.rest.map u8b ++ [.int .i64 t.used])).toArray
def takeW (h : W192) (r : W128) (b : List Byte) (top : BitVec 64) : W192 :=
  let c0 := carry h.1 (wordB (b.take 8)) 0#64
  timesW (h.1 + wordB (b.take 8) + 0#64, h.2.1 + wordB (b.drop 8) + c0, h.2.2 + (carry h.2.1 (wordB (b.drop 8)) c0 + top)) r
def newS (key : List Byte) : PolyS :=
  ⟨(wordB (key.take 8) &&& 1152921487695413247#64, wordB ((key.drop 8).take 8) &&& 1152921487695413244#64), (wordB ((key.drop 16).take 8), wordB (key.drop 24)), (0#64, 0#64, 0#64), List.replicate 16 0#8, 0⟩
/-- One byte more. -/
def push (t : PolyS) (x : Byte) : PolyS :=
  if t.used + 1 = 16 then { t with h := takeW t.h t.r (t.rest.set t.used x) 1#64, rest := t.rest.set t.used x, used := 0 }
  else { t with rest := t.rest.set t.used x, used := t.used + 1 }
def writeS (t : PolyS) (b : List Byte) : PolyS := b.foldl push t
structure PolyOk (t : PolyS) : Prop where
  rest : t.rest.length = 16
  used : t.used < 16
theorem newS_ok (key : List Byte) : PolyOk (newS key) := ⟨by simp [newS], by simp [newS]⟩
theorem push_ok {t : PolyS} (h : PolyOk t) (x : Byte) : PolyOk (push t x) := by
  have hu := h.used
  unfold push
  split
  · exact ⟨by simp [h.rest], by simp⟩
  · exact ⟨by simp [h.rest], by show t.used + 1 < 16; omega⟩
theorem writeS_ok {b : List Byte} : ∀ {t : PolyS}, PolyOk t → PolyOk (writeS t b) := by
  induction b with
  | nil => exact fun h => h
  | cons x b ih => exact fun h => ih (push_ok h x)
theorem writeS_nil (t : PolyS) : writeS t [] = t := rfl
theorem writeS_zero (t : PolyS) (b : List Byte) : writeS t (b.take 0) = t := rfl
theorem writeS_append (t : PolyS) (a b : List Byte) : writeS t (a ++ b) = writeS (writeS t a) b := by simp [writeS, List.foldl_append]
/-- What a copy into the rest leaves. -/
def put1 (t : PolyS) (x : List Byte) : PolyS := { t with rest := t.rest.take t.used ++ x ++ t.rest.drop (t.used + x.length), used := t.used + x.length }
def full (t : PolyS) : PolyS := if t.used = 16 then setU (setH t (takeW t.h t.r t.rest 1#64)) 0 else t
theorem set_split {l : List Byte} {i : Nat} {x : Byte} (h : i < l.length) : l.set i x = l.take i ++ x :: l.drop (i + 1) := by
  rw [List.set_eq_take_append_cons_drop, if_pos h]
theorem write_put {x : List Byte} : ∀ {t : PolyS}, PolyOk t → t.used + x.length ≤ 16 → writeS t x = full (put1 t x) := by
  induction x with
  | nil =>
    intro t ht _
    have := ht.used
    show t = full (put1 t [])
    have e : put1 t [] = t := by simp [put1]
    rw [e, full, if_neg (by omega)]
  | cons a x ih =>
    intro t ht hl
    simp only [List.length_cons] at hl
    have hr := ht.rest
    have hu := ht.used
    show writeS (push t a) x = _
    by_cases h16 : t.used + 1 = 16
    · have hx : x = [] := List.eq_nil_of_length_eq_zero (by omega)
      subst hx
      show push t a = _
      have e : put1 t [a] = { t with rest := t.rest.set t.used a, used := t.used + 1 } := by
        simp only [put1, List.length_cons, List.length_nil, set_split (show t.used < t.rest.length by omega)]
        simp
      rw [e, full, if_pos h16, push, if_pos h16]; rfl
    · have hp : push t a = { t with rest := t.rest.set t.used a, used := t.used + 1 } := by rw [push, if_neg h16]
      rw [ih (push_ok ht a) (by rw [hp]; show t.used + 1 + x.length ≤ 16; omega)]
      congr 1
      rw [hp]
      simp only [put1, List.length_cons]
      have e : List.take (t.used + 1) (t.rest.set t.used a) = t.rest.take t.used ++ [a] := by
        rw [set_split (by omega), List.take_append, List.take_take]
        have e2 : (t.rest.take t.used).length = t.used := by simp; omega
        rw [e2]
        simp
      have e3 : List.drop (t.used + 1 + x.length) (t.rest.set t.used a) = t.rest.drop (t.used + (x.length + 1)) := by
        rw [List.drop_set_of_lt (by omega)]; congr 1; omega
      rw [e, e3]
      simp; omega
theorem put1_rest {t : PolyS} {x : List Byte} (ht : PolyOk t) (h : t.used + x.length ≤ 16) : (put1 t x).rest.length = 16 := by
  have := ht.rest
  simp [put1]; omega
theorem full_ok {t : PolyS} (h : t.rest.length = 16) (hu : t.used ≤ 16) : PolyOk (full t) := by
  unfold full
  split
  · exact ⟨h, by show 0 < 16; omega⟩
  · exact ⟨h, by omega⟩

theorem pc_size {t : PolyS} (h : t.rest.length = 16) : (pc t).size = 24 := by simp [pc, h]
theorem pc_used {t : PolyS} (h : t.rest.length = 16) : (pc t)[23]? = some (.int .i64 t.used) := by
  simp [pc, List.getElem?_append, h]
theorem pc_rest {t : PolyS} (h : t.rest.length = 16) : (pc t).extract 7 23 = (t.rest.map u8b).toArray := by
  apply Array.ext'
  simp only [pc, Array.toList_extract, List.extract_eq_take_drop]
  simp [h]
theorem pc_setUsed {t : PolyS} (h : t.rest.length = 16) (n : Nat) : (pc t).setIfInBounds 23 (.int .i64 n) = pc (setU t n) := by
  apply Array.ext'
  simp [pc, setU, List.set_append, h]
theorem pc_copy {t : PolyS} {x : List Byte} (h : t.rest.length = 16) (hx : t.used + x.length ≤ 16) : wr (pc t) (7 + t.used) (x.map u8b) = pc (setU (put1 t x) t.used) := by
  apply Array.ext'
  rw [wr_toList _ _ _ (by rw [pc_size h, List.length_map]; omega)]
  have e : (pc t).toList = [u64b t.r.1, u64b t.r.2, u64b t.s.1, u64b t.s.2, u64b t.h.1, u64b t.h.2.1, u64b t.h.2.2] ++ (t.rest.map u8b ++ [.int .i64 t.used]) := rfl
  rw [e, List.take_append, List.drop_append]
  have l7 : [u64b t.r.1, u64b t.r.2, u64b t.s.1, u64b t.s.2, u64b t.h.1, u64b t.h.2.1, u64b t.h.2.2].length = 7 := rfl
  rw [l7, List.take_of_length_le (by rw [l7]; omega), List.drop_of_length_le (by rw [l7, List.length_map]; omega)]
  have e1 : 7 + t.used - 7 = t.used := by omega
  have e2 : 7 + t.used + (x.map u8b).length - 7 = t.used + x.length := by rw [List.length_map]; omega
  rw [e1, e2, List.take_append_of_le_length (by simp; omega), List.drop_append_of_le_length (by simp; omega)]
  simp [pc, setU, put1, ← List.map_take, ← List.map_drop]
theorem pc_h (t : PolyS) : (pc t).extract 4 7 = hA t.h := by
  apply Array.ext'
  simp [pc, hA, List.extract_eq_take_drop]
theorem pc_r (t : PolyS) : (pc t).extract 0 2 = wA t.r := by
  apply Array.ext'
  simp [pc, wA, List.extract_eq_take_drop]
theorem pc_setH (t : PolyS) (h : W192) : wr (pc t) 4 (hA h).toList = pc (setH t h) := rfl
theorem ext_map (b : List Byte) (i j : Nat) : ((b.map u8b).toArray).extract i j = (((b.drop i).take (j - i)).map u8b).toArray := by
  apply Array.ext'
  simp [List.extract_eq_take_drop]
/-- The end of it. -/
def lastB (t : PolyS) : List Byte := (t.rest.take t.used ++ List.replicate (16 - t.used) 0#8).set t.used 1#8
def finS (t : PolyS) : PolyS := if 0 < t.used then setH t (takeW t.h t.r (lastB t) 0#64) else t
def outW (h : W192) (s : W128) : W128 :=
  let b0 := borrow h.1 18446744073709551611#64 0#64
  let l0 := h.1 - 18446744073709551611#64 - 0#64
  let l1 := h.2.1 - 18446744073709551615#64 - b0
  let b1 := borrow h.2.1 18446744073709551615#64 b0
  let keep := - borrow h.2.2 3#64 b1
  let k0 := h.1 &&& keep ||| l0 &&& ~~~ keep
  let k1 := h.2.1 &&& keep ||| l1 &&& ~~~ keep
  (k0 + s.1 + 0#64, k1 + s.2 + carry k0 s.1 0#64)
def outB (o : W128) (i : Nat) : Byte := ((if i / 8 = 0 then o.1 else o.2) >>> (8 * (i % 8))).setWidth 8
def bytesOf (o : W128) : List Byte := (List.range 16).map (outB o)
def sumS (t : PolyS) : List Byte := bytesOf (outW (finS t).h (finS t).s)
def code (key all : List Byte) : List Byte := sumS (writeS (newS key) all)
def upto (f : Nat → Byte) (i : Nat) : List Byte := (List.range 16).map fun j => if j < i then f j else 0#8
theorem upto_set (f : Nat → Byte) (i : Nat) : (upto f i).set i (f i) = upto f (i + 1) := by
  apply List.ext_getElem (by simp [upto])
  intro j h1 h2
  simp only [upto, List.getElem_set, List.getElem_map, List.getElem_range]
  by_cases e : i = j
  · subst e; simp
  · rw [if_neg e]
    by_cases h : j < i
    · rw [if_pos h, if_pos (by omega)]
    · rw [if_neg h, if_neg (by omega)]
theorem upto_zero (f : Nat → Byte) : upto f 0 = List.replicate 16 0#8 := by simp [upto, List.range_succ]
theorem upto_end (f : Nat → Byte) : upto f 16 = (List.range 16).map f := by
  apply List.map_congr_left
  intro j hj
  rw [if_pos (by simpa using hj)]
theorem pc_restTake {t : PolyS} (h : t.rest.length = 16) (hu : t.used ≤ 16) : ((pc t).extract 7 (7 + t.used * 1)).toList = (t.rest.take t.used).map u8b := by
  simp only [pc, Array.toList_extract, List.extract_eq_take_drop, Nat.mul_one]
  have e : 7 + t.used - 7 = t.used := by omega
  rw [e]
  show List.take t.used (t.rest.map u8b ++ [.int .i64 t.used]) = _
  rw [List.take_append_of_le_length (by simp; omega), List.map_take]
theorem copy_last {t : PolyS} (h : t.rest.length = 16) (hu : t.used < 16) : wr ((List.replicate 16 0#8).map u8b).toArray 0 ((t.rest.take t.used).map u8b) = ((t.rest.take t.used ++ List.replicate (16 - t.used) 0#8).map u8b).toArray := by
  apply Array.ext'
  rw [wr_toList _ _ _ (by simp; omega)]
  have e : (0 + ((t.rest.take t.used).map u8b).length) = t.used := by simp; omega
  rw [e, List.map_replicate, List.map_append, List.map_replicate]
  show List.take 0 (List.replicate 16 (u8b 0#8)) ++ _ ++ List.drop t.used (List.replicate 16 (u8b 0#8)) = _
  rw [List.drop_replicate]; rfl
theorem pc_one (t : PolyS) : (pc t).toList.all oneC = true := by simp [pc, oneC]
theorem pc_s0 (t : PolyS) : (pc t)[2]? = some (u64b t.s.1) := rfl
theorem pc_s1 (t : PolyS) : (pc t)[3]? = some (u64b t.s.2) := rfl
theorem setH_eqs (t : PolyS) (h : W192) : (setH t h).s = t.s ∧ (setH t h).h = h ∧ (setH t h).rest = t.rest ∧ (setH t h).used = t.used := ⟨rfl, rfl, rfl, rfl⟩
theorem finS_rest (t : PolyS) : (finS t).rest = t.rest := by unfold finS; split <;> rfl
theorem finS_s (t : PolyS) : (finS t).s = t.s := by unfold finS; split <;> rfl
theorem lastB_len {t : PolyS} (h : t.rest.length = 16) (hu : t.used ≤ 16) : (lastB t).length = 16 := by simp [lastB, h]; omega
theorem bytesOf_len (o : W128) : (bytesOf o).length = 16 := by simp [bytesOf]
theorem code_len (key all : List Byte) : (code key all).length = 16 := bytesOf_len _
end Go.Sl

/- seal: what is sealed and opened, in plain Lean. No program in sight. -/
set_option linter.unusedVariables false
namespace Go.Sl
open Go
/-- Bytes 0 up to a multiple of 16. -/
def padB (b : List Byte) : List Byte := List.replicate ((16 - b.length % 16) % 16) 0#8
/-- What is vouched for. -/
def macB (more cover : List Byte) : List Byte := ((more ++ padB more) ++ (cover ++ padB cover)) ++ (leB (BitVec.ofNat 64 more.length) 8 ++ leB (BitVec.ofNat 64 cover.length) 8)
def oneKey (key nonce : List Byte) : List Byte := (blockB key 0#32 nonce).take 32
theorem oneKey_len (key nonce : List Byte) : (oneKey key nonce).length = 32 := by simp [oneKey, blockB_len]
def vouchB (key nonce more cover : List Byte) : List Byte := code (oneKey key nonce) (macB more cover)
theorem vouchB_len (key nonce more cover : List Byte) : (vouchB key nonce more cover).length = 16 := code_len _ _
/-- A text's box. -/
def sealB (key nonce more text : List Byte) : List Byte := xorB key nonce 64 text ++ vouchB key nonce more (xorB key nonce 64 text)
theorem sealB_len (key nonce more text : List Byte) : (sealB key nonce more text).length = text.length + 16 := by simp [sealB, xorB_len, vouchB_len]
/-- The cover of a box, its tag, whether that is right, the text. -/
def coverB (box : List Byte) : List Byte := box.take (box.length - 16)
def tagB (box : List Byte) : List Byte := box.drop (box.length - 16)
def rightB (key nonce more box : List Byte) : Bool := decide (vouchB key nonce more (coverB box) = tagB box)
def textB (key nonce box : List Byte) : List Byte := xorB key nonce 64 (coverB box)
theorem textB_len (key nonce box : List Byte) : (textB key nonce box).length = box.length - 16 := by simp [textB, xorB_len, coverB]
theorem cover_seal (key nonce more text : List Byte) : coverB (sealB key nonce more text) = xorB key nonce 64 text := by
  unfold coverB; rw [sealB_len, Nat.add_sub_cancel]
  unfold sealB; rw [List.take_append_of_le_length (by rw [xorB_len]; exact Nat.le_refl _), List.take_of_length_le (by rw [xorB_len]; exact Nat.le_refl _)]
theorem tag_seal (key nonce more text : List Byte) : tagB (sealB key nonce more text) = vouchB key nonce more (xorB key nonce 64 text) := by
  unfold tagB; rw [sealB_len, Nat.add_sub_cancel]
  unfold sealB; rw [List.drop_append_of_le_length (by rw [xorB_len]; exact Nat.le_refl _), List.drop_of_length_le (by rw [xorB_len]; exact Nat.le_refl _)]; rfl
/-- What is sealed opens. -/
theorem right_seal (key nonce more text : List Byte) : rightB key nonce more (sealB key nonce more text) = true := by
  unfold rightB; rw [cover_seal, tag_seal]; exact decide_eq_true rfl
theorem text_seal (key nonce more text : List Byte) : textB key nonce (sealB key nonce more text) = text := by
  unfold textB; rw [cover_seal, xorB_back]
/-- What opens is what is sealed of the text. -/
theorem seal_text (key nonce more box : List Byte) (h : rightB key nonce more box = true) : sealB key nonce more (textB key nonce box) = box := by
  unfold rightB at h
  have h := of_decide_eq_true h
  unfold sealB textB
  rw [xorB_back, h]
  unfold coverB tagB
  exact List.take_append_drop _ _
end Go.Sl

/- page: what a page is, in plain Lean. No program in sight. -/
set_option linter.unusedVariables false
set_option linter.unusedSimpArgs false
namespace Go.Sl
open Go
theorem lowB_bitn (w : Nat) : ∀ (n : Nat) (b : List Byte), b.length = n → ∀ i, i < w → (lowB w b).getLsbD i = (b.getD (i / 8) 0#8).getLsbD (i % 8) := by
  intro n
  induction n with
  | zero => intro b hb i hi; obtain rfl := List.eq_nil_of_length_eq_zero hb; simp [lowB]
  | succ n ihn =>
    intro b' hb'
    obtain ⟨b, x, rfl⟩ : ∃ b x, b' = b ++ [x] := by
      rcases List.eq_nil_or_concat b' with rfl|⟨b, x, rfl⟩
      · simp at hb'
      · exact ⟨b, x, by simp⟩
    have ih := ihn b (by simpa using hb')
    intro i hi
    rw [lowB_snoc, BitVec.getLsbD_or, BitVec.getLsbD_shiftLeft, ih i hi, BitVec.getLsbD_setWidth]
    have h8 : i = 8 * (i / 8) + i % 8 := by omega
    by_cases h1 : i / 8 < b.length
    · have h2 : i < 8 * b.length := by omega
      simp [List.getD_eq_getElem?_getD, List.getElem?_append_left h1, h2, hi]
    · by_cases h2 : i / 8 = b.length
      · have h3 : ¬ i < 8 * b.length := by omega
        have h4 : i - 8 * b.length = i % 8 := by omega
        have h5 : i % 8 < w := by omega
        simp [List.getD_eq_getElem?_getD, h2, h3, h4, h5, hi]
      · have h3 : ¬ i < 8 * b.length := by omega
        have h6 : x.getLsbD (i - 8 * b.length) = false := BitVec.getLsbD_of_ge _ _ (by omega)
        have h7 : (b ++ [x])[i / 8]? = none := List.getElem?_eq_none (by simp; omega)
        have h8 : b[i / 8]? = none := List.getElem?_eq_none (by omega)
        simp [List.getD_eq_getElem?_getD, h6, h7, h8]
theorem lowB_bit (w : Nat) (b : List Byte) (i : Nat) (hi : i < w) : (lowB w b).getLsbD i = (b.getD (i / 8) 0#8).getLsbD (i % 8) := lowB_bitn w _ b rfl i hi
theorem leB_get {w : Nat} (x : BitVec w) (n j : Nat) (h : j < n) : (leB x n).getD j 0#8 = (x >>> (8 * j)).setWidth 8 := by
  simp [leB, List.getD_eq_getElem?_getD, h]
theorem low_le {w n : Nat} (x : BitVec w) (h : w = 8 * n) : lowB w (leB x n) = x := by
  apply BitVec.eq_of_getLsbD_eq
  intro i hi
  rw [lowB_bit _ _ _ hi, leB_get _ _ _ (by omega), BitVec.getLsbD_setWidth, BitVec.getLsbD_ushiftRight]
  rw [show 8 * (i / 8) + i % 8 = i from by omega]
  simp; omega
theorem le_low {w n : Nat} (b : List Byte) (h : w = 8 * n) (hb : b.length = n) : leB (lowB w b) n = b := by
  apply List.ext_getElem (by rw [leB_len, hb])
  intro j h1 h2
  rw [leB_len] at h1
  have e := leB_get (lowB w b) n j h1
  rw [List.getD_eq_getElem?_getD, List.getElem?_eq_getElem (by rw [leB_len]; exact h1), Option.getD_some] at e
  rw [e]
  apply BitVec.eq_of_getLsbD_eq
  intro i hi
  rw [BitVec.getLsbD_setWidth, BitVec.getLsbD_ushiftRight, lowB_bit _ _ _ (by omega), show (8 * j + i) / 8 = j from by omega, show (8 * j + i) % 8 = i from by omega, List.getD_eq_getElem?_getD, List.getElem?_eq_getElem h2]
  simp [hi]
/-- What a page's seal holds it to. -/
structure Plc where
  round : BitVec 64
  counter : BitVec 32
  page : BitVec 32
  version : BitVec 32
theorem Plc.eq_iff (a b : Plc) : (a.round = b.round ∧ a.counter = b.counter ∧ a.page = b.page ∧ a.version = b.version) ↔ a = b := by
  constructor
  · rintro ⟨h1, h2, h3, h4⟩
    cases a; cases b
    simp only at h1 h2 h3 h4
    rw [h1, h2, h3, h4]
  · rintro rfl
    exact ⟨rfl, rfl, rfl, rfl⟩
instance : DecidableEq Plc := fun a b => decidable_of_iff _ (Plc.eq_iff a b)
def headB (p : Plc) : List Byte := leB p.round 8 ++ leB p.counter 4
def moreB (p : Plc) : List Byte := leB p.page 4 ++ leB p.version 4
theorem headB_len (p : Plc) : (headB p).length = 12 := by simp [headB, leB_len]
theorem moreB_len (p : Plc) : (moreB p).length = 8 := by simp [moreB, leB_len]
def pgSealB (key : List Byte) (p : Plc) (text : List Byte) : List Byte := headB p ++ sealB key (headB p) (moreB p) text
theorem pgSealB_len (key : List Byte) (p : Plc) (text : List Byte) : (pgSealB key p text).length = text.length + 28 := by simp [pgSealB, headB_len, sealB_len]; omega
def pgSealR (key : List Byte) (p : Plc) (text : List Byte) : List Byte × Nat := if 4096 < text.length then ([], 3) else (pgSealB key p text, 0)
def pgHeadR (b : List Byte) : BitVec 64 × BitVec 32 × Nat := if b.length < 28 then (0#64, 0#32, 20) else (lowB 64 (b.take 8), lowB 32 ((b.drop 8).take 4), 0)
def pgFits (p : Plc) (box : List Byte) : Prop := 28 ≤ box.length ∧ box.length ≤ 4124 ∧ box.take 12 = headB p
instance (p : Plc) (box : List Byte) : Decidable (pgFits p box) := inferInstanceAs (Decidable (_ ∧ _))
def pgOpens (key : List Byte) (p : Plc) (box : List Byte) : Prop := pgFits p box ∧ rightB key (headB p) (moreB p) (box.drop 12) = true
instance (key : List Byte) (p : Plc) (box : List Byte) : Decidable (pgOpens key p box) := inferInstanceAs (Decidable (_ ∧ _))
def pgOpenR (key : List Byte) (p : Plc) (box : List Byte) : List Byte × Nat := if pgOpens key p box then (textB key (headB p) (box.drop 12), 0) else ([], 120)
/-- A head is its round and its counter. -/
theorem head_is (p : Plc) (box : List Byte) (h : 12 ≤ box.length) : box.take 12 = headB p ↔ lowB 64 (box.take 8) = p.round ∧ lowB 32 ((box.drop 8).take 4) = p.counter := by
  have e : box.take 12 = box.take 8 ++ (box.drop 8).take 4 := by
    rw [show (12 : Nat) = 8 + 4 from rfl, List.take_add]
  have l8 : (box.take 8).length = 8 := by simp; omega
  have l4 : ((box.drop 8).take 4).length = 4 := by simp; omega
  rw [e]
  constructor
  · intro hh
    unfold headB at hh
    have h2 := List.append_inj hh (by rw [l8, leB_len])
    rw [h2.1, h2.2, low_le (n := 8) _ rfl, low_le (n := 4) _ rfl]
    exact ⟨rfl, rfl⟩
  · rintro ⟨h1, h2⟩
    unfold headB
    rw [← h1, ← h2, le_low (n := 8) _ rfl l8, le_low (n := 4) _ rfl l4]
theorem pgSeal_head (key : List Byte) (p : Plc) (text : List Byte) : (pgSealB key p text).take 12 = headB p := by
  unfold pgSealB
  rw [List.take_append_of_le_length (by rw [headB_len]; exact Nat.le_refl _), List.take_of_length_le (by rw [headB_len]; exact Nat.le_refl _)]
theorem pgSeal_drop (key : List Byte) (p : Plc) (text : List Byte) : (pgSealB key p text).drop 12 = sealB key (headB p) (moreB p) text := by
  unfold pgSealB
  rw [List.drop_append_of_le_length (by rw [headB_len]; exact Nat.le_refl _), List.drop_of_length_le (by rw [headB_len]; exact Nat.le_refl _)]; rfl
/-- What is sealed opens. -/
theorem pg_back (key : List Byte) (p : Plc) (text : List Byte) (h : text.length ≤ 4096) : pgOpenR key p (pgSealB key p text) = (text, 0) := by
  unfold pgOpenR
  rw [if_pos ⟨⟨by rw [pgSealB_len]; omega, by rw [pgSealB_len]; omega, pgSeal_head key p text⟩, by rw [pgSeal_drop]; exact right_seal _ _ _ _⟩, pgSeal_drop, text_seal]
/-- What opens is what is sealed of the text. -/
theorem pg_form (key : List Byte) (p : Plc) (box : List Byte) (h : pgOpens key p box) : pgSealB key p (pgOpenR key p box).1 = box ∧ (pgOpenR key p box).1.length + 28 = box.length := by
  obtain ⟨⟨h1, h2, h3⟩, h4⟩ := h
  unfold pgOpenR
  rw [if_pos ⟨⟨h1, h2, h3⟩, h4⟩]
  constructor
  · unfold pgSealB
    dsimp only
    rw [seal_text _ _ _ _ h4, ← h3, List.take_append_drop]
  · dsimp only
    rw [textB_len, List.length_drop]; omega
theorem pgHead_seal (key : List Byte) (p : Plc) (text : List Byte) : pgHeadR (pgSealB key p text) = (p.round, p.counter, 0) := by
  unfold pgHeadR
  rw [if_neg (by rw [pgSealB_len]; omega)]
  obtain ⟨h1, h2⟩ := (head_is p (pgSealB key p text) (by rw [pgSealB_len]; omega)).1 (pgSeal_head key p text)
  rw [h1, h2]
theorem pgOpenR_len (key : List Byte) (p : Plc) (box : List Byte) : (pgOpenR key p box).1.length ≤ 4096 := by
  unfold pgOpenR
  split
  · rename_i h
    dsimp only
    rw [textB_len, List.length_drop]
    have := h.1.2.1
    omega
  · simp
theorem pgSealR_len (key : List Byte) (p : Plc) (text : List Byte) : (pgSealR key p text).1.length ≤ 4124 := by
  unfold pgSealR
  split
  · simp
  · dsimp only; rw [pgSealB_len]; omega
end Go.Sl

/- stream: two rounds, a block, walked. -/
set_option maxHeartbeats 4000000
set_option maxRecDepth 10000
set_option linter.unusedVariables false
set_option linter.unusedSimpArgs false
namespace Go.Sl
open Go Go.Proofs
attribute [local irreducible] cl pt own old pur ex all den denOps denS xOps xC cX CX xthen xblk xcut xloop xgo xng retX resX Calls PV Rd Con
attribute [local irreducible] qAt twiceN quarterW
theorem getW {l : List Wd} (j : Nat) (h : j < l.length) : ((l.map u32b).toArray)[j]? = some (u32b (l.getD j 0#32)) := by
  rw [getL h, List.getD_eq_getElem?_getD, List.getElem?_eq_getElem h]; rfl
theorem qAt_is (s : List Wd) (a b c d : Nat) : qAt s (a, b, c, d) = (((s.set a (quarterW (s.getD a 0#32) (s.getD b 0#32) (s.getD c 0#32) (s.getD d 0#32)).1).set b (quarterW (s.getD a 0#32) (s.getD b 0#32) (s.getD c 0#32) (s.getD d 0#32)).2.1).set c (quarterW (s.getD a 0#32) (s.getD b 0#32) (s.getD c 0#32) (s.getD d 0#32)).2.2.1).set d (quarterW (s.getD a 0#32) (s.getD b 0#32) (s.getD c 0#32) (s.getD d 0#32)).2.2.2 := by
  unfold qAt; rfl
theorem twice_x (s : List Wd) (hs : s.length = 16) : Con Tryz.prog 68 [.agg (s.map u32b).toArray] [] (fun r M => r = .agg ((twiceW s).map u32b).toArray ∧ M = []) := by
  have ht0 : twiceN s 0 = s := by unfold twiceN; rfl
  have hl : ∀ n, (twiceN s n).length = 16 := fun n => by rw [twiceN_len, hs]
  refine fn_x Tryz.func68 rfl rfl rfl Tryz.mixed (by kernel_rfl) ?_
  intro w0
  refine Ct.o ?_
  refine Zgb ?_
  refine Zh5 rfl ?_; intro b1
  refine Zhz (cs := ((List.replicate 16 0#32).map u32b).toArray) rfl ?_; intro b2
  refine Zg3 ?_
  refine Ct.o ?_
  refine Zgb ?_
  first|refine Zhg (Zat rfl) ?_|refine Zhg (Zar rfl) ?_
  refine Zg3 ?_
  refine Ct.o ?_
  refine Zgo [(3, 58)] (by kernel_rfl) (fun t : Nat => t ≤ 2) (fun t => [cl b1 ((twiceN s (4 * t)).map u32b).toArray 103, cl b2 ((List.replicate 16 0#32).map u32b).toArray 103]) (fun t => [(8, nvv t)]) (fun t => 2 - t) 0 (by omega) (by rw [ht0]; exact qI) ⟨rfl, trivial⟩ ?_
  intro t u ht
  have hlt := hl (4 * t)
  refine Ct.o ?_
  refine Zgb ?_
  first|refine Zhg (Zmf (b := 2) rfl rfl) ?_|refine Zhg (Zbn rfl rfl) ?_
  refine Zg3 ?_
  refine Ct.o ?_
  refine Zgg rfl (fun hA => ?_) (fun hA => ?_)
  · refine Ct.o ?_
    refine Zgb ?_
    first|refine Zhg (Zat rfl) ?_|refine Zhg (Zar rfl) ?_
    first|refine Zhg (Zaz rfl) ?_|refine Zhg (Zas rfl) ?_
    refine Zg3 ?_
    refine Ct.o ?_
    refine Zgb ?_
    first|refine Zhg (Zat rfl) ?_|refine Zhg (Zar rfl) ?_
    refine Zg3 ?_
    refine Ct.o ?_
    refine Zgo [(4, 7), (11, 57)] (by kernel_rfl) (fun i : Nat => i ≤ 4) (fun i => [cl b1 ((twiceN s (4 * t + i)).map u32b).toArray 103, cl b2 ((List.replicate 16 0#32).map u32b).toArray 103]) (fun i => [(11, nvv i)]) (fun i => 4 - i) 0 (by omega) qI ⟨rfl, trivial⟩ ?_
    intro i u2 hi
    have hli := hl (4 * t + i)
    refine Ct.o ?_
    refine Zgb ?_
    first|refine Zhg (Zmf (b := 4) rfl rfl) ?_|refine Zhg (Zbn rfl rfl) ?_
    refine Zg3 ?_
    refine Ct.o ?_
    refine Zgg rfl (fun hB => ?_) (fun hB => ?_)
    · have h1 : (i + t) % 4 < 4 := Nat.mod_lt _ (by omega)
      have h2 : (i + 2 * t) % 4 < 4 := Nat.mod_lt _ (by omega)
      have h3 : (i + 3 * t) % 4 < 4 := Nat.mod_lt _ (by omega)
      have hsucc := twiceN_succ s (4 * t + i) (by omega)
      rw [show (4 * t + i) / 4 = t by omega, show (4 * t + i) % 4 = i by omega, quadOf, qAt_is] at hsucc
      generalize twiceN s (4 * t + i) = S at hli hsucc
      refine Ct.o ?_
      refine Zgb ?_
      first|refine Zhg (Zat rfl) ?_|refine Zhg (Zar rfl) ?_
      first|refine Zhg (Zaz rfl) ?_|refine Zhg (Zas rfl) ?_
      refine Zg3 ?_
      refine Ct.o ?_
      refine Zgb ?_
      first|refine Zhg (Zat rfl) ?_|refine Zhg (Zar rfl) ?_
      first|refine Zhg (Zat rfl) ?_|refine Zhg (Zar rfl) ?_
      first|refine Zhg (Zma rfl rfl) ?_|refine Zhg (Zbg rfl rfl) ?_
      first|refine Zhg (Zme (b := 4) rfl rfl) ?_|refine Zhg (Zbl rfl rfl) ?_
      first|refine Zhg (Zma (a := 4) rfl rfl) ?_|refine Zhg (Zbg rfl rfl) ?_
      first|refine Zhg (Zat rfl) ?_|refine Zhg (Zar rfl) ?_
      first|refine Zhg (Zat rfl) ?_|refine Zhg (Zar rfl) ?_
      first|refine Zhg (Zmc (a := 2) rfl rfl) ?_|refine Zhg (Zbi rfl rfl) ?_
      first|refine Zhg (Zma rfl rfl) ?_|refine Zhg (Zbg rfl rfl) ?_
      first|refine Zhg (Zme (b := 4) rfl rfl) ?_|refine Zhg (Zbl rfl rfl) ?_
      first|refine Zhg (Zma (a := 8) rfl rfl) ?_|refine Zhg (Zbg rfl rfl) ?_
      first|refine Zhg (Zat rfl) ?_|refine Zhg (Zar rfl) ?_
      first|refine Zhg (Zat rfl) ?_|refine Zhg (Zar rfl) ?_
      first|refine Zhg (Zmc (a := 3) rfl rfl) ?_|refine Zhg (Zbi rfl rfl) ?_
      first|refine Zhg (Zma rfl rfl) ?_|refine Zhg (Zbg rfl rfl) ?_
      first|refine Zhg (Zme (b := 4) rfl rfl) ?_|refine Zhg (Zbl rfl rfl) ?_
      first|refine Zhg (Zma (a := 12) rfl rfl) ?_|refine Zhg (Zbg rfl rfl) ?_
      first|refine Zhg (Zaz rfl) ?_|refine Zhg (Zas rfl) ?_
      first|refine Zhg (Zaz rfl) ?_|refine Zhg (Zas rfl) ?_
      first|refine Zhg (Zaz rfl) ?_|refine Zhg (Zas rfl) ?_
      refine Zg3 ?_
      refine Ct.o ?_
      refine Zij (_) [9, 12, 15] (.q 0 (.q 1 (.q 2 (.q 3 (.q 4 (.q 5 (.q 7 (.q 8 (.q 10 (.q 11 (.q 13 (.q 14 (.r 6 (.r 9 (.r 12 (.r 15 (.e 16 false (.q 17 (.q 18 (.q 19 (.q 20 (.q 21 (.q 22 (.e 23 false (.q 24 (.e 25 false (.q 26 (.e 27 false (.q 28 (.e 29 false .nil)))))))))))))))))))))))))))))) (by kernel_rfl) (by kernel_rfl) (Imp.refl _) ?_
      first|refine Zim rfl (Zat rfl) ?_|refine Zim rfl (Zar rfl) ?_
      first|refine Zim rfl (Zat rfl) ?_|refine Zim rfl (Zar rfl) ?_
      first|refine Zim rfl (Zat rfl) ?_|refine Zim rfl (Zar rfl) ?_
      first|refine Zim rfl (Zat rfl) ?_|refine Zim rfl (Zar rfl) ?_
      first|refine Zim rfl (Zat rfl) ?_|refine Zim rfl (Zar rfl) ?_
      first|refine Zim rfl (Zl5 (n := i) rfl (int_eq (by push_cast; omega))) ?_|refine Zim rfl (Zl3 (n := i) rfl (int_eq (by push_cast; omega))) ?_
      first|refine Zim rfl (Zat rfl) ?_|refine Zim rfl (Zar rfl) ?_
      first|refine Zim rfl (Zl5 (n := 4 + (i + t) % 4) rfl (int_eq (by push_cast; omega))) ?_|refine Zim rfl (Zl3 (n := 4 + (i + t) % 4) rfl (int_eq (by push_cast; omega))) ?_
      first|refine Zim rfl (Zat rfl) ?_|refine Zim rfl (Zar rfl) ?_
      first|refine Zim rfl (Zl5 (n := 8 + (i + 2 * t) % 4) rfl (int_eq (by push_cast; omega))) ?_|refine Zim rfl (Zl3 (n := 8 + (i + 2 * t) % 4) rfl (int_eq (by push_cast; omega))) ?_
      first|refine Zim rfl (Zat rfl) ?_|refine Zim rfl (Zar rfl) ?_
      first|refine Zim rfl (Zl5 (n := 12 + (i + 3 * t) % 4) rfl (int_eq (by push_cast; omega))) ?_|refine Zim rfl (Zl3 (n := 12 + (i + 3 * t) % 4) rfl (int_eq (by push_cast; omega))) ?_
      refine Ziv rfl rfl qH (getW i (by omega)) ?_
      refine Ziv rfl rfl qH (getW _ (by omega)) ?_
      refine Ziv rfl rfl qH (getW _ (by omega)) ?_
      refine Ziv rfl rfl qH (getW _ (by omega)) ?_
      refine Ziq rfl ?_
      refine Zh8 rfl (by kernel_rfl) (quarter_x _ _ _ _) rfl qT ?_
      rintro _ _ ⟨rfl, rfl⟩
      refine Zg2 qA ?_
      refine Zg3 ⟨(fun hh => Bool.noConfusion hh), ?_⟩
      first|refine Zim rfl (Zmm rfl) ?_|refine Zim rfl (Zar rfl) ?_
      refine Zim rfl (Zco rfl rfl) ?_
      refine Zim rfl (Zco rfl rfl) ?_
      refine Zim rfl (Zco rfl rfl) ?_
      refine Zim rfl (Zco rfl rfl) ?_
      first|refine Zim rfl (Zl5 (n := i) rfl (int_eq (by push_cast; omega))) ?_|refine Zim rfl (Zl3 (n := i) rfl (int_eq (by push_cast; omega))) ?_
      refine Ziq rfl ?_
      refine Zht rfl rfl qR qZ (setL (f := u32b)) ?_
      refine Zg3 ⟨(fun hh => Bool.noConfusion hh), ?_⟩
      first|refine Zim rfl (Zl5 (n := 4 + (i + t) % 4) rfl (int_eq (by push_cast; omega))) ?_|refine Zim rfl (Zl3 (n := 4 + (i + t) % 4) rfl (int_eq (by push_cast; omega))) ?_
      refine Ziq rfl ?_
      refine Zht rfl rfl qR qZ (setL (f := u32b)) ?_
      refine Zg3 ⟨(fun hh => Bool.noConfusion hh), ?_⟩
      first|refine Zim rfl (Zl5 (n := 8 + (i + 2 * t) % 4) rfl (int_eq (by push_cast; omega))) ?_|refine Zim rfl (Zl3 (n := 8 + (i + 2 * t) % 4) rfl (int_eq (by push_cast; omega))) ?_
      refine Ziq rfl ?_
      refine Zht rfl rfl qR qZ (setL (f := u32b)) ?_
      refine Zg3 ⟨(fun hh => Bool.noConfusion hh), ?_⟩
      first|refine Zim rfl (Zl5 (n := 12 + (i + 3 * t) % 4) rfl (int_eq (by push_cast; omega))) ?_|refine Zim rfl (Zl3 (n := 12 + (i + 3 * t) % 4) rfl (int_eq (by push_cast; omega))) ?_
      refine Ziq rfl ?_
      refine Zht rfl rfl qR qZ (setL (f := u32b)) ?_
      refine Zg3 ⟨(fun hh => Bool.noConfusion hh), ?_⟩
      refine Zik ?_
      refine Ct.o ?_
      rw [← hsucc]
      refine Ct.o ?_
      refine Zgb ?_
      first|refine Zhg (Zma (b := 1) rfl rfl) ?_|refine Zhg (Zbg rfl rfl) ?_
      first|refine Zhg (Zat rfl) ?_|refine Zhg (Zar rfl) ?_
      refine Zg3 ?_
      refine Ct.o ?_
      exact Zgl (i + 1) qO (by omega) qI ⟨rfl, trivial⟩
    · have hie : i = 4 := by omega
      subst hie
      refine Ct.o ?_
      refine Zgb ?_
      first|refine Zhg (Zma (b := 1) rfl rfl) ?_|refine Zhg (Zbg rfl rfl) ?_
      first|refine Zhg (Zat rfl) ?_|refine Zhg (Zar rfl) ?_
      refine Zg3 ?_
      refine Ct.o ?_
      exact Zgl (t + 1) qO (by omega) qI ⟨rfl, trivial⟩
  · have hie : t = 2 := by omega
    subst hie
    refine Ct.o ?_
    refine Zgb ?_
    first|refine Zhr rfl qH qZ ?_|refine Zhq rfl qH qZ rfl ?_
    first|refine Zhy rfl rfl qR qZ qN qZ ?_|refine Zhx rfl rfl qR qZ qN qZ rfl ?_
    refine Zg3 ?_
    refine Ct.o ?_
    refine rx1 (Zhe rfl qH qZ (Zg7)) ?_
    exact ⟨_, ⟨by unfold twiceW; rfl, rfl⟩, qI⟩
/-- The block while it is filled. -/
def outK (s f : List Wd) (i : Nat) : List Byte := outW64 s f i ++ List.replicate (64 - 4 * i) 0#8
theorem outK_len (s f : List Wd) (i : Nat) (h : i ≤ 16) : (outK s f i).length = 64 := by simp [outK, outW64_len]; omega
theorem outK_wr (s f : List Wd) (i : Nat) (h : i < 16) (w : Wd) (hw : w = sumW s f i) : wr (((outK s f i).map u8b).toArray) (4 * i) ((([] ++ leB w 4).map u8b).take (min ([] ++ leB w 4).length (64 - 4 * i) * 1)) = ((outK s f (i + 1)).map u8b).toArray := by
  have hl := leB_len w 4
  have ho := outW64_len s f i
  rw [List.nil_append, hl, Nat.min_eq_left (by omega), Nat.mul_one, List.take_of_length_le (by simp [hl])]
  apply Array.ext'
  rw [wr_toList _ _ _ (by simp [hl, outK_len s f i (by omega)]; omega)]
  simp only [outK]
  rw [outW64_succ, ← hw, show 64 - 4 * i = 4 + (64 - 4 * (i + 1)) by omega, ← List.replicate_append_replicate]
  simp only [List.map_append, List.length_map, hl]
  rw [List.take_append_of_le_length (by simp [ho]), List.take_of_length_le (by simp [ho]), List.drop_append, List.drop_of_length_le (by simp [ho])]
  simp [ho, show 4 * i + 4 - 4 * i = 4 by omega]
attribute [local irreducible] outK outW64 stateW twiceW iterW
theorem block_x (key : List Byte) (ctr : Wd) (nonce : List Byte) (hk : key.length = 32) (hn : nonce.length = 12) : Con Tryz.prog 55 [.agg (key.map u8b).toArray, u32b ctr, .agg (nonce.map u8b).toArray] [] (fun r M => r = .agg ((blockB key ctr nonce).map u8b).toArray ∧ M = []) := by
  have hsl := stateW_len key ctr nonce
  have hsc := state_x key ctr nonce hk hn
  obtain ⟨S, hS⟩ : ∃ S, S = stateW key ctr nonce := ⟨_, rfl⟩
  rw [← hS] at hsl hsc
  have hi0 : iterW 0 S = S := by unfold iterW; rfl
  have his : ∀ n, iterW (n + 1) S = twiceW (iterW n S) := fun n => by conv => lhs; unfold iterW
  have hbl : blockB key ctr nonce = outK (iterW 10 S) S 16 := by unfold blockB outK; rw [← hS]; simp
  have hil : ∀ n, (iterW n S).length = 16 := fun n => by rw [iterW_len, hsl]
  have ho0 : outK (iterW 10 S) S 0 = List.replicate 64 0#8 := by unfold outK outW64; simp
  have hol := outK_len (iterW 10 S) S
  refine fn_x Tryz.func55 rfl rfl rfl Tryz.mixed (by kernel_rfl) ?_
  intro w0
  refine Ct.o ?_
  refine Zgb ?_
  refine Zh5 rfl ?_; intro b3
  refine Zh5 rfl ?_; intro b5
  refine Zhz (cs := ((List.replicate 64 0#8).map u8b).toArray) rfl ?_; intro b6
  refine Zg3 ?_
  refine Ct.o ?_
  refine Zgb ?_
  first|refine Zhr rfl qH qZ ?_|refine Zhq rfl qH qZ rfl ?_
  first|refine Zhg (Zat rfl) ?_|refine Zhg (Zar rfl) ?_
  first|refine Zhr rfl qH qZ ?_|refine Zhq rfl qH qZ rfl ?_
  refine Zh8 rfl (by kernel_rfl) (hsc) rfl qT ?_
  rintro _ _ ⟨rfl, rfl⟩
  refine Zg2 qA ?_
  refine Zhz (cs := ((List.replicate 16 0#32).map u32b).toArray) rfl ?_; intro b7
  first|refine Zhy rfl rfl qR qZ qN qZ ?_|refine Zhx rfl rfl qR qZ qN qZ rfl ?_
  refine Zg3 ?_
  refine Ct.o ?_
  refine Zgb ?_
  first|refine Zhr rfl qH qZ ?_|refine Zhq rfl qH qZ rfl ?_
  refine Zhz (cs := ((List.replicate 16 0#32).map u32b).toArray) rfl ?_; intro b8
  first|refine Zhy rfl rfl qR qZ qN qZ ?_|refine Zhx rfl rfl qR qZ qN qZ rfl ?_
  refine Zg3 ?_
  refine Ct.o ?_
  refine Zgb ?_
  first|refine Zhg (Zat rfl) ?_|refine Zhg (Zar rfl) ?_
  refine Zg3 ?_
  refine Ct.o ?_
  refine Zgo [(17, 21)] (by kernel_rfl) (fun i : Nat => i ≤ 10) (fun i => [cl b8 ((iterW i S).map u32b).toArray 103, cl b7 (S.map u32b).toArray 103, cl b6 ((List.replicate 64 0#8).map u8b).toArray 83])
    (fun i => [(17, nvv i)]) (fun i => 10 - i) 0 (by omega) (by rw [hi0]; exact qI) ⟨rfl, trivial⟩ ?_
  intro i u hi
  have hli := hil i
  refine Ct.o ?_
  refine Zgb ?_
  first|refine Zhg (Zmf (b := 10) rfl rfl) ?_|refine Zhg (Zbn rfl rfl) ?_
  refine Zg3 ?_
  refine Ct.o ?_
  refine Zgg rfl (fun hB => ?_) (fun hB => ?_)
  · have htl := twiceW_len (iterW i S)
    refine Ct.o ?_
    refine Zgb ?_
    first|refine Zhr rfl qH qZ ?_|refine Zhq rfl qH qZ rfl ?_
    refine Zh8 rfl (by kernel_rfl) (twice_x (iterW i S) hli) rfl qT ?_
    rintro _ _ ⟨rfl, rfl⟩
    refine Zg2 qA ?_
    first|refine Zhy rfl rfl qR qZ qN qZ ?_|refine Zhx rfl rfl qR qZ qN qZ rfl ?_
    refine Zg3 ?_
    refine Ct.o ?_
    rw [← his]
    refine Ct.o ?_
    refine Zgb ?_
    first|refine Zhg (Zma (b := 1) rfl rfl) ?_|refine Zhg (Zbg rfl rfl) ?_
    first|refine Zhg (Zat rfl) ?_|refine Zhg (Zar rfl) ?_
    refine Zg3 ?_
    refine Ct.o ?_
    exact Zgl (i + 1) qO (by omega) qI ⟨rfl, trivial⟩
  · have hie : i = 10 := by omega
    subst hie
    refine Ct.o ?_
    refine Zgb ?_
    refine Zhz (cs := ((List.replicate 64 0#8).map u8b).toArray) rfl ?_; intro b9
    refine Zg3 ?_
    refine Ct.o ?_
    refine Zgb ?_
    first|refine Zhr rfl qH qZ ?_|refine Zhq rfl qH qZ rfl ?_
    first|refine Zhg (Zat rfl) ?_|refine Zhg (Zar rfl) ?_
    refine Zg3 ?_
    refine Ct.o ?_
    refine Zgo [(10, 11), (23, 37)] (by kernel_rfl) (fun i : Nat => i ≤ 16) (fun i => [cl b9 ((outK (iterW 10 S) S i).map u8b).toArray 83, cl b7 (S.map u32b).toArray 103, cl b6 ((List.replicate 64 0#8).map u8b).toArray 83])
      (fun i => [(23, nvv i)]) (fun i => 16 - i) 0 (by omega) (by rw [ho0]; exact qI) ⟨rfl, trivial⟩ ?_
    intro i u2 hi
    have hli := hol i hi
    refine Ct.o ?_
    refine Zgb ?_
    first|refine Zhg (Zmf (b := 16) rfl rfl) ?_|refine Zhg (Zbn rfl rfl) ?_
    refine Zg3 ?_
    refine Ct.o ?_
    refine Zgg rfl (fun hB => ?_) (fun hB => ?_)
    · refine Ct.o ?_
      refine Zgb ?_
      first|refine Zhg (Zat rfl) ?_|refine Zhg (Zar rfl) ?_
      refine Zhg (Znb rfl rfl (getW i (by omega))) ?_
      first|refine Zhg (Zaz rfl) ?_|refine Zhg (Zas rfl) ?_
      first|refine Zhg (Zaz rfl) ?_|refine Zhg (Zas rfl) ?_
      refine Zg3 ?_
      refine Ct.o ?_
      refine Zij (_) [] (.q 0 (.q 1 (.q 2 (.q 3 (.q 4 (.q 5 (.r 6 (.q 7 (.e 8 false (.e 9 false .nil)))))))))) (by kernel_rfl) (by kernel_rfl) (Imp.refl _) ?_
      first|refine Zim rfl (Zat rfl) ?_|refine Zim rfl (Zar rfl) ?_
      first|refine Zim rfl (Zmc (a := 4) rfl rfl) ?_|refine Zim rfl (Zbi rfl rfl) ?_
      first|refine Zim rfl (Zm9 (l := 4 * i) (h := 64) rfl qB qB) ?_|refine Zim rfl (Zmx (l := 4 * i) (h := 64) rfl qB qB) ?_
      first|refine Zim rfl (Zat rfl) ?_|refine Zim rfl (Zar rfl) ?_
      first|refine Zim rfl (Zat rfl) ?_|refine Zim rfl (Zar rfl) ?_
      first|refine Zim rfl (Zl5 (n := i) rfl (int_eq (by push_cast; omega))) ?_|refine Zim rfl (Zl3 (n := i) rfl (int_eq (by push_cast; omega))) ?_
      refine Ziv rfl rfl qH (getW i (by omega)) ?_
      refine Zim rfl (Zkn rfl rfl) ?_
      refine Ziq rfl ?_
      refine Zh8 rfl (by kernel_rfl) (put32_x (L := []) _ Bs.nil (by simp)) rfl qT ?_
      rintro _ _ ⟨a3, c3, rfl, rfl⟩
      refine Zg2 qA ?_
      refine Zg3 ⟨(fun hh => Bool.noConfusion hh), ?_⟩
      refine Ziq rfl ?_
      refine Zib rfl rfl (Rd.own qH) qR qZ qN (outK_wr (iterW 10 S) S i hB _ rfl) ?_
      refine Zg3 ⟨(fun hh => Bool.noConfusion hh), ?_⟩
      refine Zik ?_
      refine Ct.o ?_
      refine Zgb ?_
      first|refine Zhg (Zma (b := 1) rfl rfl) ?_|refine Zhg (Zbg rfl rfl) ?_
      first|refine Zhg (Zat rfl) ?_|refine Zhg (Zar rfl) ?_
      refine Zg3 ?_
      refine Ct.o ?_
      exact Zgl (i + 1) qO (by omega) qI ⟨rfl, trivial⟩
    · have hie : i = 16 := by omega
      subst hie
      rw [← hbl]
      have hbll := blockB_len key ctr nonce
      refine Ct.o ?_
      refine Zgb ?_
      first|refine Zhr rfl qH qZ ?_|refine Zhq rfl qH qZ rfl ?_
      first|refine Zhy rfl rfl qR qZ qN qZ ?_|refine Zhx rfl rfl qR qZ qN qZ rfl ?_
      refine Zg3 ?_
      refine Ct.o ?_
      refine rx1 (Zhe rfl qH qZ (Zg7)) ?_
      exact ⟨_, ⟨rfl, rfl⟩, by exact Imp.arr (by repeat (first|exact Arr.nil|exact Arr.stop|refine Arr.cons (by repeat constructor) ?_|refine Arr.skip ?_))⟩
end Go.Sl

/- stream: New, Xor, walked. -/
set_option maxHeartbeats 4000000
set_option maxRecDepth 10000
set_option linter.unusedVariables false
set_option linter.unusedSimpArgs false
namespace Go.Sl
open Go Go.Proofs
attribute [local irreducible] cl pt own old pur ex all den denOps denS xOps xC cX CX xthen xblk xcut xloop xgo xng retX resX Calls PV Rd Con
attribute [local irreducible] blockB ksB
/-- The cells of a stream. -/
def scl (key nonce : List Byte) (p : BitVec 64) : Array Value := (key.map u8b ++ (nonce.map u8b ++ [u64b p])).toArray
section
variable {key nonce : List Byte} {p q : BitVec 64} (hk : key.length = 32) (hn : nonce.length = 12)
theorem scl_size (hk : key.length = 32) (hn : nonce.length = 12) : (scl key nonce p).size = 45 := by simp [scl, hk, hn]
theorem scl_key (hk : key.length = 32) : (scl key nonce p).extract 0 32 = (key.map u8b).toArray := by
  apply Array.ext'; simp [scl, List.extract_eq_take_drop, hk]
theorem scl_nonce (hk : key.length = 32) (hn : nonce.length = 12) : (scl key nonce p).extract 32 44 = (nonce.map u8b).toArray := by
  apply Array.ext'; simp [scl, List.extract_eq_take_drop, hk, hn]
theorem scl_p (hk : key.length = 32) (hn : nonce.length = 12) : (scl key nonce p)[44]? = some (u64b p) := by simp [scl, List.getElem?_append, List.getElem?_cons, hk, hn]
theorem scl_set (hk : key.length = 32) (hn : nonce.length = 12) : (scl key nonce p).setIfInBounds 44 (u64b q) = scl key nonce q := by
  apply Array.ext'; simp [scl, List.set_append, hk, hn]
end
def z44 : List Value := List.replicate 44 (Value.int .u8 0)
theorem new_fill {pl : Nat → Option (Nat × Nat)} (key nonce : List Byte) (p : BitVec 64) (hk : key.length = 32) (hn : nonce.length = 12) (h0 : pl 0 = some (0, 32)) (h1 : pl 1 = some (32, 12)) (h2 : pl 2 = some (44, 1)) :
    Instr.fill pl ((z44 ++ [Value.int .u64 0]).toArray) [(0, .agg (key.map u8b).toArray), (1, .agg (nonce.map u8b).toArray), (2, u64b p)] = some (scl key nonce p) := by
  refine fill_part (z' := (key.map u8b ++ (List.replicate 12 (Value.int .u8 0) ++ [Value.int .u64 0])).toArray) h0 (by simp [Value.cells, hk]) (by simp [z44]) ?_ (fill_part (z' := (key.map u8b ++ (nonce.map u8b ++ [Value.int .u64 0])).toArray) h1 (by simp [Value.cells, hn]) (by simp [hk]) ?_ (fill_part (z' := scl key nonce p) h2 (by simp [Value.cells]) (by simp [hk, hn]) ?_ fill_end))
  · apply Array.ext'
    rw [wr_toList _ _ _ (by simp [Value.cells, hk, z44])]
    simp [Value.cells, hk, z44]
  · apply Array.ext'
    rw [wr_toList _ _ _ (by simp [Value.cells, hk, hn])]
    simp [Value.cells, hk, hn, List.drop_append]
  · apply Array.ext'
    rw [wr_toList _ _ _ (by simp [Value.cells, hk, hn])]
    simp only [Value.cells, scl, List.take_append, List.drop_append, List.length_map, hk, hn]
    rw [List.take_of_length_le (l := key.map u8b) (by simp [hk]), List.drop_of_length_le (l := key.map u8b) (by simp [hk]), List.drop_of_length_le (l := nonce.map u8b) (by simp [hn]), List.take_of_length_le (l := nonce.map u8b) (by simp [hn])]
    simp
theorem snew_x (key nonce : List Byte) (ctr : Wd) (hk : key.length = 32) (hn : nonce.length = 12) : Con Tryz.prog 53 [.agg (key.map u8b).toArray, .agg (nonce.map u8b).toArray, u32b ctr] [] (fun r M => ∃ s, r = .pointer (some ⟨s, 0, none⟩) ∧ M = [cl s (scl key nonce (64#64 * ctr.setWidth 64)) 102]) := by
  refine fn_x Tryz.func53 rfl rfl rfl Tryz.mixed (by kernel_rfl) ?_
  intro w0
  refine Ct.o ?_
  refine Zgb ?_
  refine Zh5 rfl ?_; intro b3
  refine Zh5 rfl ?_; intro b4
  first|refine Zhg (Za1 rfl) ?_|refine Zhg (Zas rfl) ?_
  refine Zg3 ?_
  refine Ct.o ?_
  refine Zgb ?_
  first|refine Zhr rfl qH qZ ?_|refine Zhq rfl qH qZ rfl ?_
  first|refine Zhr rfl qH qZ ?_|refine Zhq rfl qH qZ rfl ?_
  first|refine Zhg (Zat rfl) ?_|refine Zhg (Zar rfl) ?_
  refine Zhg (Zlb rfl) ?_
  refine Zhg (Zle (x := 64#64) rfl rfl) ?_
  refine Zhg (Zdm (cs := scl key nonce (64#64 * ctr.setWidth 64)) (new_fill key nonce _ hk hn rfl rfl rfl)) ?_
  refine Zh5 rfl ?_; intro b13
  first|refine Zhg (Za1 rfl) ?_|refine Zhg (Zas rfl) ?_
  refine Zg3 ?_
  refine Ct.o ?_
  refine rx1 (Zhb rfl (Zg7)) ?_
  exact ⟨_, ⟨b13, rfl, rfl⟩, qI⟩
/-- What is laid over, up to a place. -/
def xK (key nonce : List Byte) (p : Nat) (b : List Byte) (n : Nat) : List Byte := (List.range b.length).map fun j => if j < n then b.getD j 0#8 ^^^ ksB key nonce (p + j) else 0#8
theorem xK_len (key nonce : List Byte) (p : Nat) (b : List Byte) (n : Nat) : (xK key nonce p b n).length = b.length := by simp [xK]
theorem xK_zero (key nonce : List Byte) (p : Nat) (b : List Byte) : xK key nonce p b 0 = List.replicate b.length 0#8 := by
  apply List.ext_getElem (by simp [xK]); intro j h1 h2; simp [xK]
theorem xK_end (key nonce : List Byte) (p : Nat) (b : List Byte) : xK key nonce p b b.length = xorB key nonce p b := by
  apply List.ext_getElem (by simp [xK, xorB]); intro j h1 h2
  have : j < b.length := by simpa [xK] using h1
  simp [xK, xorB, this]
theorem xK_set (key nonce : List Byte) (p : Nat) (b : List Byte) (n : Nat) (h : n < b.length) (x y : Byte) (hx : x = b[n]) (hy : y = ksB key nonce (p + n)) : (xK key nonce p b n).set n (x ^^^ y) = xK key nonce p b (n + 1) := by
  subst hx; subst hy
  apply List.ext_getElem (by simp [xK])
  intro j h1 h2
  simp only [xK, List.getElem_set, List.getElem_map, List.getElem_range]
  by_cases e : n = j
  · subst e; rw [if_pos rfl, if_pos (by omega), List.getD_eq_getElem?_getD, List.getElem?_eq_getElem h]; rfl
  · rw [if_neg e]
    by_cases h3 : j < n
    · rw [if_pos h3, if_pos (by omega)]
    · rw [if_neg h3, if_neg (by omega)]
theorem ctr_eq (q : Nat) (hq : q < 18446744073709551616) : (BitVec.ofNat 64 q / 64#64).setWidth 32 = BitVec.ofNat 32 (q / 64) := by
  apply BitVec.eq_of_toNat_eq
  rw [BitVec.toNat_setWidth, BitVec.toNat_udiv, BitVec.toNat_ofNat, BitVec.toNat_ofNat, BitVec.toNat_ofNat, Nat.mod_eq_of_lt (show q < 2 ^ 64 by omega)]
theorem rem_eq (q : Nat) (hq : q < 18446744073709551616) : (BitVec.ofNat 64 q % 64#64).toNat = q % 64 := by
  rw [BitVec.toNat_umod, BitVec.toNat_ofNat, BitVec.toNat_ofNat, Nat.mod_eq_of_lt (show q < 2 ^ 64 by omega)]
theorem plus_eq (q n : Nat) : BitVec.ofNat 64 q + BitVec.ofInt 64 ((n : Nat) : Int) = BitVec.ofNat 64 (q + n) := by
  rw [show BitVec.ofInt 64 ((n : Nat) : Int) = BitVec.ofNat 64 n from BitVec.ofInt_natCast .., ← BitVec.ofNat_add]
theorem ks_in (key nonce : List Byte) (q i : Nat) (h : q % 64 + i < 64) : ksB key nonce (q + i) = (blockB key (BitVec.ofNat 32 (q / 64)) nonce).getD (q % 64 + i) 0#8 := by
  unfold ksB
  rw [show (q + i) / 64 = q / 64 by omega, show (q + i) % 64 = q % 64 + i by omega]
attribute [local irreducible] scl xK xorB
theorem sxor_x {L : List Asrt} {s : Nat} (key nonce : List Byte) (hk : key.length = 32) (hn : nonce.length = 12) (p : Nat) (hp : p + 1099511627776 ≤ 18446744073709551616) {v : Value} {b : List Byte} (h : Bs L v b) (hb : b.length + p ≤ 274877906944) :
    Con Tryz.prog 54 [.pointer (some ⟨s, 0, none⟩), v] (cl s (scl key nonce (BitVec.ofNat 64 p)) 102 :: L)
      (fun r M => ∃ g, r = .tuple #[.slice (some ⟨g, 0, none⟩) b.length b.length, nvv 0] ∧ M = cl g ((xorB key nonce p b).map u8b).toArray 5 :: cl s (scl key nonce (BitVec.ofNat 64 (p + b.length))) 102 :: L) := by
  refine Con.get (fun w0 w F H => (h.imp Imp.tail).sh _ _ _ H) ?_
  rintro ⟨va, vc, rfl, hvc, hvcm⟩
  have hsz := fun q => scl_size (p := q) hk hn
  refine fn_x Tryz.func54 rfl rfl rfl Tryz.mixed (by kernel_rfl) ?_
  intro w0
  refine Ct.o ?_
  refine Zgb ?_
  first|refine Zhg (Za2 rfl) ?_|refine Zhg (Zas rfl) ?_
  first|refine Zhg (Zaz rfl) ?_|refine Zhg (Zas rfl) ?_
  refine Zg3 ?_
  refine Ct.o ?_
  refine Zgb ?_
  first|refine Zhg (Zav rfl) ?_|refine Zhg (Zar rfl) ?_
  refine Zhg (Zca rfl rfl) ?_
  refine Zg3 ?_
  refine Ct.o ?_
  refine Zgf rfl ?_
  refine Ct.o ?_
  have hle : ¬ ((274877906944#64 - BitVec.ofNat 64 p).toNat < (BitVec.ofInt 64 ((b.length : Nat) : Int)).toNat) := by
    rw [BitVec.toNat_sub, BitVec.toNat_ofNat, BitVec.toNat_ofNat, BitVec.toNat_ofInt]
    omega
  refine Ct.o ?_
  refine Zgb ?_
  first|refine Zhg (Zaw rfl) ?_|refine Zhg (Zar rfl) ?_
  first|refine Zhg (Zcr rfl) ?_|refine Zhg (Zct) ?_|refine Zhg (Zcu rfl) ?_
  refine Zhg (Zlv rfl) ?_
  first|refine Zhg (Zav rfl) ?_|refine Zhg (Zar rfl) ?_
  refine Zhg (Zba rfl) ?_
  first|refine Zhg (Zl8 rfl) ?_|refine Zhg (Zce rfl) ?_
  refine Zhp rfl qH (scl_p hk hn) ?_
  refine Zhg (Zld (x := 274877906944#64) rfl rfl) ?_
  refine Zhg (Zlr rfl rfl) ?_
  refine Zhn 22 rfl (decide_eq_false (hle)) ?_
  refine Zg3 ?_
  refine Ct.o ?_
  refine Zgf rfl ?_
  refine Ct.o ?_
  refine Zgb ?_
  first|refine Zhg (Zaw rfl) ?_|refine Zhg (Zar rfl) ?_
  first|refine Zhg (Zcr rfl) ?_|refine Zhg (Zct) ?_|refine Zhg (Zcu rfl) ?_
  refine Zm3 (f := u8b) (a := 0#8) rfl rfl rfl qS qS qS ?_; intro b25
  first|refine Zhg (Za2 rfl) ?_|refine Zhg (Zas rfl) ?_
  refine Zg3 ?_
  refine Ct.o ?_
  refine Zgb ?_
  first|refine Zhg (Zaz rfl) ?_|refine Zhg (Zas rfl) ?_
  refine Zg3 ?_
  refine Ct.o ?_
  refine Zgo [(7, 11), (26, 90)] (by kernel_rfl) (fun d : Nat => d ≤ b.length) (fun d => cl b25 ((xK key nonce p b d).map u8b).toArray 5 :: cl s (scl key nonce (BitVec.ofNat 64 (p + d))) 102 :: L) (fun d => [(7, nvv d)]) (fun d => b.length - d) 0 (by omega) (by rw [xK_zero]; exact qI) ⟨rfl, trivial⟩ ?_
  intro d u hd
  have hxl := xK_len key nonce p b
  refine Ct.o ?_
  refine Zgb ?_
  first|refine Zhg (Zat rfl) ?_|refine Zhg (Zar rfl) ?_
  first|refine Zhg (Zaw rfl) ?_|refine Zhg (Zar rfl) ?_
  first|refine Zhg (Zcr rfl) ?_|refine Zhg (Zct) ?_|refine Zhg (Zcu rfl) ?_
  first|refine Zhg (Zmf rfl rfl) ?_|refine Zhg (Zbn rfl rfl) ?_
  refine Zg3 ?_
  refine Ct.o ?_
  refine Zgg rfl (fun hA => ?_) (fun hA => ?_)
  · refine Zgt (fun F w H => (h.imp (Imp.arr qV)).some (by omega) H) ?_
    rintro ⟨a1, a2, rfl⟩
    have hbl := fun c => blockB_len key c nonce
    have hs1 := hsz (BitVec.ofNat 64 (p + d))
    have hb1 := hbl ((BitVec.ofNat 64 (p + d) / 64#64).setWidth 32)
    refine Ct.o ?_
    refine Zij (_) [7, 8, 9, 13, 14, 15] (.q 0 (.q 1 (.q 2 (.q 4 (.q 5 (.q 6 (.q 10 (.q 11 (.q 12 (.r 3 (.r 7 (.r 8 (.r 9 (.r 13 (.e 14 true (.a 15 (.e 16 false .nil))))))))))))))))) (by kernel_rfl) (by kernel_rfl) (Imp.refl _) ?_
    first|refine Zim rfl (Zav rfl) ?_|refine Zim rfl (Zar rfl) ?_
    refine Zim rfl (Zba rfl) ?_
    first|refine Zim rfl (Zl8 rfl) ?_|refine Zim rfl (Zce rfl) ?_
    first|refine Zim rfl (Zav rfl) ?_|refine Zim rfl (Zar rfl) ?_
    refine Zim rfl (Zba rfl) ?_
    first|refine Zim rfl (Zl8 rfl) ?_|refine Zim rfl (Zce rfl) ?_
    first|refine Zim rfl (Zav rfl) ?_|refine Zim rfl (Zar rfl) ?_
    refine Zim rfl (Zba rfl) ?_
    first|refine Zim rfl (Zl8 rfl) ?_|refine Zim rfl (Zce rfl) ?_
    refine Zix (n := 32) rfl rfl qH qZ (scl_key hk) ?_
    refine Ziv rfl rfl qH (scl_p hk hn) ?_
    refine Ziz rfl (Zlt (y := 64#64) rfl rfl) ?_
    refine Ziz rfl (Zlz rfl) ?_
    refine Zfj rfl rfl (RdAg.cl (n := 12) (o := 32) qH (by omega) (scl_nonce hk hn)) ?_
    refine Ziq rfl ?_
    refine Zh8 rfl (by kernel_rfl) (block_x key _ nonce hk hn) rfl qT ?_
    rintro _ _ ⟨rfl, rfl⟩
    refine Zg2 qA ?_
    refine Zg3 ⟨fun _ => Imp.arr qV, ?_⟩
    refine Zir rfl (cs := ((List.replicate 64 0#8).map u8b).toArray) rfl ?_; intro b8
    refine Ziq rfl ?_
    first|refine Zhy rfl rfl qR qZ qN qZ ?_|refine Zhx rfl rfl qR qZ qN qZ rfl ?_
    refine Zg3 ⟨(fun hh => Bool.noConfusion hh), ?_⟩
    refine Zik ?_
    refine Ct.o ?_
    rw [ctr_eq (p + d) (by omega)]
    generalize hBL : blockB key (BitVec.ofNat 32 ((p + d) / 64)) nonce = BL
    have hBll : BL.length = 64 := by rw [← hBL]; exact hbl _
    have hoff : (p + d) % 64 < 64 := Nat.mod_lt _ (by omega)
    refine Ct.o ?_
    refine Zgb ?_
    first|refine Zhg (Zav rfl) ?_|refine Zhg (Zar rfl) ?_
    refine Zhg (Zba rfl) ?_
    first|refine Zhg (Zl8 rfl) ?_|refine Zhg (Zce rfl) ?_
    refine Zhp rfl qH (scl_p hk hn) ?_
    refine Zhg (PV.eq (v' := .int .u64 (((p + d) % 64 : Nat) : Int)) (Zlu (y := 64#64) rfl rfl) (by rw [rem_eq (p + d) (by omega)])) ?_
    first|refine Zhg (Zm9 (l := (p + d) % 64) (h := 64) rfl qB qB) ?_|refine Zhg (Zmx (l := (p + d) % 64) (h := 64) rfl qB qB) ?_
    first|refine Zhg (Za2 rfl) ?_|refine Zhg (Zas rfl) ?_
    refine Zg3 ?_
    refine Ct.o ?_
    obtain ⟨n, hn0⟩ : ∃ n, n = min (64 - (p + d) % 64) (b.length - d) := ⟨_, rfl⟩
    refine Ct.o ?_
    refine Zgb ?_
    first|refine Zhg (Zaw rfl) ?_|refine Zhg (Zar rfl) ?_
    first|refine Zhg (Zcr rfl) ?_|refine Zhg (Zct) ?_|refine Zhg (Zcu rfl) ?_
    first|refine Zhg (Zaw rfl) ?_|refine Zhg (Zar rfl) ?_
    first|refine Zhg (Zcr rfl) ?_|refine Zhg (Zct) ?_|refine Zhg (Zcu rfl) ?_
    first|refine Zhg (Zat rfl) ?_|refine Zhg (Zar rfl) ?_
    first|refine Zhg (Zmb rfl rfl) ?_|refine Zhg (Zbh rfl rfl) ?_
    refine Zhg (PV.eq (v' := nvv n) (Zcw rfl rfl) (int_eq (by rw [hn0]; omega))) ?_
    first|refine Zhg (Zaz rfl) ?_|refine Zhg (Zas rfl) ?_
    refine Zg3 ?_
    refine Ct.o ?_
    have hn1 : 0 < n := by omega
    have hn2 : n ≤ b.length - d := by omega
    have hn3 : (p + d) % 64 + n ≤ 64 := by omega
    clear hn0
    refine Ct.o ?_
    refine Zgb ?_
    first|refine Zhg (Zat rfl) ?_|refine Zhg (Zar rfl) ?_
    first|refine Zhg (Zat rfl) ?_|refine Zhg (Zar rfl) ?_
    refine Zg3 ?_
    refine Ct.o ?_
    refine Zgo [(11, 11), (59, 78)] (by kernel_rfl) (fun i : Nat => i ≤ n) (fun i => cl b8 (BL.map u8b).toArray 83 :: cl b25 ((xK key nonce p b (d + i)).map u8b).toArray 5 :: cl s (scl key nonce (BitVec.ofNat 64 (p + d))) 102 :: L) (fun i => [(59, nvv i)]) (fun i => n - i) 0 (by omega) qI ⟨rfl, trivial⟩ ?_
    intro i u2 hi
    refine Ct.o ?_
    refine Zgb ?_
    first|refine Zhg (Zmf rfl rfl) ?_|refine Zhg (Zbn rfl rfl) ?_
    refine Zg3 ?_
    refine Ct.o ?_
    refine Zgg rfl (fun hB => ?_) (fun hB => ?_)
    · have hdi : d + i < b.length := by omega
      have hx2 := hxl (d + i)
      have hk2 : BL.getD ((p + d) % 64 + i) 0#8 = ksB key nonce (p + (d + i)) := by rw [← Nat.add_assoc, ks_in key nonce (p + d) i (by omega), hBL]
      have hg : ((BL.map u8b).toArray)[(p + d) % 64 + i]? = some (u8b (BL.getD ((p + d) % 64 + i) 0#8)) := by
        rw [getL (by omega), List.getD_eq_getElem?_getD, List.getElem?_eq_getElem (by omega)]; rfl
      refine Ct.o ?_
      refine Zgb ?_
      first|refine Zhg (Zat rfl) ?_|refine Zhg (Zar rfl) ?_
      first|refine Zhg (Zaz rfl) ?_|refine Zhg (Zas rfl) ?_
      refine Zg3 ?_
      refine Ct.o ?_
      refine Zij (_) [13] (.q 0 (.q 1 (.q 2 (.q 3 (.q 4 (.q 5 (.q 6 (.q 7 (.q 8 (.q 10 (.q 11 (.q 12 (.r 9 (.r 13 (.q 14 (.q 15 (.e 16 false .nil))))))))))))))))) (by kernel_rfl) (by kernel_rfl) (Imp.refl _) ?_
      first|refine Zim rfl (Zaw rfl) ?_|refine Zim rfl (Zar rfl) ?_
      first|refine Zim rfl (Zat rfl) ?_|refine Zim rfl (Zar rfl) ?_
      first|refine Zim rfl (Zat rfl) ?_|refine Zim rfl (Zar rfl) ?_
      first|refine Zim rfl (Zma rfl rfl) ?_|refine Zim rfl (Zbg rfl rfl) ?_
      first|refine Zim rfl (Zaw rfl) ?_|refine Zim rfl (Zar rfl) ?_
      first|refine Zim rfl (Zat rfl) ?_|refine Zim rfl (Zar rfl) ?_
      first|refine Zim rfl (Zat rfl) ?_|refine Zim rfl (Zar rfl) ?_
      first|refine Zim rfl (Zma rfl rfl) ?_|refine Zim rfl (Zbg rfl rfl) ?_
      first|refine Zim rfl (Zl4 (n := d + i) rfl (int_eq (by push_cast; omega))) ?_|refine Zim rfl (Zl1 (n := d + i) rfl (int_eq (by push_cast; omega))) ?_
      first|refine Zim rfl (Zaw rfl) ?_|refine Zim rfl (Zar rfl) ?_
      first|refine Zim rfl (Zat rfl) ?_|refine Zim rfl (Zar rfl) ?_
      first|refine Zim rfl (Zl4 (n := i) rfl (int_eq (by push_cast; omega))) ?_|refine Zim rfl (Zl1 (n := i) rfl (int_eq (by push_cast; omega))) ?_
      refine Zfh rfl rfl (((h.imp (Imp.arr qV)).rd.at hdi (getM hdi))) ?_
      refine Ziv rfl rfl qH (hg) ?_
      refine Zim rfl (Zje rfl rfl) ?_
      first|refine Zim rfl (Zl4 (n := d + i) rfl (int_eq (by push_cast; omega))) ?_|refine Zim rfl (Zl1 (n := d + i) rfl (int_eq (by push_cast; omega))) ?_
      refine Ziq rfl ?_
      refine Zht rfl rfl qR qZ (setL (f := u8b)) ?_
      refine Zg3 ⟨(fun hh => Bool.noConfusion hh), ?_⟩
      refine Zik ?_
      refine Ct.o ?_
      rw [xK_set key nonce p b (d + i) hdi _ _ rfl hk2, Nat.add_assoc]
      refine Ct.o ?_
      refine Zgb ?_
      first|refine Zhg (Zma (b := 1) rfl rfl) ?_|refine Zhg (Zbg rfl rfl) ?_
      first|refine Zhg (Zat rfl) ?_|refine Zhg (Zar rfl) ?_
      refine Zg3 ?_
      refine Ct.o ?_
      exact Zgl (i + 1) qO (by omega) qI ⟨rfl, trivial⟩
    · have hie : i = n := by omega
      subst hie
      refine Ct.o ?_
      refine Zgb ?_
      first|refine Zhg (Zat rfl) ?_|refine Zhg (Zar rfl) ?_
      first|refine Zhg (Zat rfl) ?_|refine Zhg (Zar rfl) ?_
      first|refine Zhg (Zma rfl rfl) ?_|refine Zhg (Zbg rfl rfl) ?_
      first|refine Zhg (Zaz rfl) ?_|refine Zhg (Zas rfl) ?_
      refine Zg3 ?_
      refine Ct.o ?_
      refine Zgb ?_
      first|refine Zhg (Zav rfl) ?_|refine Zhg (Zar rfl) ?_
      refine Zhg (Zba rfl) ?_
      first|refine Zhg (Zl8 rfl) ?_|refine Zhg (Zce rfl) ?_
      refine Zhp rfl qH (scl_p hk hn) ?_
      first|refine Zhg (Zat rfl) ?_|refine Zhg (Zar rfl) ?_
      refine Zhg (Zlv rfl) ?_
      refine Zhg (Zlc rfl rfl) ?_
      refine Zhg (Zba rfl) ?_
      first|refine Zhg (Zl8 rfl) ?_|refine Zhg (Zce rfl) ?_
      refine Zht rfl rfl qR qZ (scl_set hk hn) ?_
      refine Zg3 ?_
      refine Ct.o ?_
      rw [plus_eq, Nat.add_assoc]
      exact Zgl (d + i) qO (by omega) qI ⟨rfl, trivial⟩
  · have hie : d = b.length := by omega
    subst hie
    rw [xK_end]
    refine Ct.o ?_
    refine Zgb ?_
    first|refine Zhg (Zaw rfl) ?_|refine Zhg (Zar rfl) ?_
    first|refine Zhg (Za2 rfl) ?_|refine Zhg (Zas rfl) ?_
    first|refine Zhg (Zaz rfl) ?_|refine Zhg (Zas rfl) ?_
    refine Zg3 ?_
    refine Ct.o ?_
    refine rx2 (Zhc rfl (Zg9 rfl (Zg7))) ?_
    exact ⟨_, ⟨b25, rfl, rfl⟩, qI⟩
theorem xor_x {L : List Asrt} (key nonce : List Byte) (hk : key.length = 32) (hn : nonce.length = 12) {v : Value} {b : List Byte} (h : Bs L v b) (hb : b.length ≤ 274877906880) :
    Con Tryz.prog 40 [.agg (key.map u8b).toArray, .agg (nonce.map u8b).toArray, u32b 1#32, v] L
      (fun r M => ∃ g, r = .tuple #[.slice (some ⟨g, 0, none⟩) b.length b.length, nvv 0] ∧ M = cl g ((xorB key nonce 64 b).map u8b).toArray 5 :: L) := by
  refine Con.get (fun w0 w F H => h.sh _ _ _ H) ?_
  rintro ⟨va, vc, rfl, hvc, hvcm⟩
  have hnew := snew_x key nonce 1#32 hk hn
  rw [show 64#64 * (1#32 : Wd).setWidth 64 = BitVec.ofNat 64 64 by decide] at hnew
  refine fn_x Tryz.func40 rfl rfl rfl Tryz.mixed (by kernel_rfl) ?_
  intro w0
  refine Ct.o ?_
  refine Zgb ?_
  refine Zh5 rfl ?_; intro b4
  refine Zh5 rfl ?_; intro b5
  first|refine Zhg (Za2 rfl) ?_|refine Zhg (Zas rfl) ?_
  first|refine Zhg (Zaz rfl) ?_|refine Zhg (Zas rfl) ?_
  refine Zg3 ?_
  refine Ct.o ?_
  refine Zgb ?_
  first|refine Zhr rfl qH qZ ?_|refine Zhq rfl qH qZ rfl ?_
  first|refine Zhr rfl qH qZ ?_|refine Zhq rfl qH qZ rfl ?_
  first|refine Zhg (Zat rfl) ?_|refine Zhg (Zar rfl) ?_
  refine Zh8 rfl (by kernel_rfl) (hnew) rfl qT ?_
  rintro _ _ ⟨s, rfl, rfl⟩
  refine Zg2 qA ?_
  first|refine Zhg (Zaw rfl) ?_|refine Zhg (Zar rfl) ?_
  refine Zh8 rfl (by kernel_rfl) (sxor_x (L := L) (s := s) key nonce hk hn 64 (by omega) h (by omega)) rfl qT ?_
  rintro _ _ ⟨g, rfl, rfl⟩
  refine Zg2 qA ?_
  refine Zhg (Zco rfl rfl) ?_
  refine Zhg (Zco rfl rfl) ?_
  first|refine Zhg (Za2 rfl) ?_|refine Zhg (Zas rfl) ?_
  first|refine Zhg (Zaz rfl) ?_|refine Zhg (Zas rfl) ?_
  refine Zg3 ?_
  refine Ct.o ?_
  refine rx2 (Zhc rfl (Zg9 rfl (Zg7))) ?_
  exact ⟨_, ⟨g, rfl, rfl⟩, qI⟩
end Go.Sl

/- errors.Is of two numbers of api.Errno; page: fails, head, more, walked. -/
set_option maxHeartbeats 4000000
set_option maxRecDepth 10000
set_option linter.unusedVariables false
set_option linter.unusedSimpArgs false
namespace Go.Sl
open Go Go.Proofs
attribute [local irreducible] cl pt own old pur ex all den denOps denS xOps xC cX CX xthen xblk xcut xloop xgo xng retX resX Calls PV Rd Con
theorem ext_typeOf (e : Int) : extv Tryz.prog 60 [.iface 31 (.int .i64 e)] (.iface 117 (.agg #[.pointer (some ⟨0, 31, none⟩)])) :=
  extv_of Tryz.func60 (by kernel_rfl) (by kernel_rfl) (by kernel_rfl) (e := Extern.ReflectliteType.typeOf) (by kernel_rfl) (by intro w; kernel_rfl)
theorem ext_comparable : extv Tryz.prog 124 [.agg #[.pointer (some ⟨0, 31, none⟩)]] (.bool true) :=
  extv_of Tryz.func124 (by kernel_rfl) (by kernel_rfl) (by kernel_rfl) (e := Extern.ReflectliteType.method fun t => do Extern.Rtype.noPackHeld "Comparable" t; pure (.bool (← typeInfo t).comparable)) (by kernel_rfl) (by intro w; kernel_rfl)
theorem met_comparable : Met Tryz.prog 117 (.agg #[.pointer (some ⟨0, 31, none⟩)]) "Comparable" 124 (.agg #[.pointer (some ⟨0, 31, none⟩)]) := by intro w; kernel_rfl
theorem is2_x (e : Int) : Con Tryz.prog 61 [.iface 31 (.int .i64 e), .iface 31 (.int .i64 0), .bool true] [] (fun r M => r = .bool (decide (e = 0)) ∧ M = []) := by
  refine fn_x Tryz.func61 rfl rfl rfl Tryz.mixed (by kernel_rfl) ?_
  intro w0
  refine Ct.o ?_
  refine Zgb ?_
  first|refine Zhg (Za0 rfl) ?_|refine Zhg (Zas rfl) ?_
  refine Zg3 ?_
  refine Ct.o ?_
  refine Zgo [(0, 0), (6, 10), (12, 53)] (by kernel_rfl) (fun _ : Unit => True) (fun _ => []) (fun _ => [(0, .iface 31 (.int .i64 e))]) (fun _ => 0) () trivial qI ⟨rfl, trivial⟩ ?_
  intro _ u _
  by_cases h : e = 0
  · refine Ct.o ?_
    refine Zgb ?_
    first|refine Zhg (Zau rfl) ?_|refine Zhg (Zar rfl) ?_
    first|refine Zhg (Zau rfl) ?_|refine Zhg (Zar rfl) ?_
    first|refine Zhi rfl ?_|refine Zhj rfl ?_|(refine Zhh rfl ?_; (first|refine Zhg (Zmp rfl) ?_|refine Zhg (Zar rfl) ?_))
    first|refine Zhi rfl ?_|refine Zhj rfl ?_|(refine Zhh rfl ?_; (first|refine Zhg (Zmp rfl) ?_|refine Zhg (Zar rfl) ?_))
    first|refine Zhi rfl ?_|refine Zhj rfl ?_|(refine Zhh rfl ?_; (refine Zhg (Zny (q := .i64) rfl (by kernel_rfl) (by kernel_rfl) rfl rfl) ?_))
    refine Zhm 18 rfl (decide_eq_true (h)) ?_
    first|refine Zhg (Zdz rfl rfl) ?_|refine Zhg (Zd0 rfl rfl) ?_|refine Zhg (Za8 rfl rfl) ?_|refine Zhg (Za9 rfl rfl) ?_|refine Zhg (Za6 rfl rfl) ?_|refine Zhg (Za7 rfl rfl) ?_
    refine Zg3 ?_
    refine Ct.o ?_
    refine Zge rfl ?_
    refine Ct.o ?_
    refine Zgb ?_
    first|refine Zhg (Za0 rfl) ?_|refine Zhg (Zas rfl) ?_
    refine Zg3 ?_
    refine Ct.o ?_
    refine rx1 (Zha rfl (Zg7)) ?_
    exact ⟨_, ⟨by simp [h], rfl⟩, qI⟩
  · refine Ct.o ?_
    refine Zgb ?_
    first|refine Zhg (Zau rfl) ?_|refine Zhg (Zar rfl) ?_
    first|refine Zhg (Zau rfl) ?_|refine Zhg (Zar rfl) ?_
    first|refine Zhi rfl ?_|refine Zhj rfl ?_|(refine Zhh rfl ?_; (first|refine Zhg (Zmp rfl) ?_|refine Zhg (Zar rfl) ?_))
    first|refine Zhi rfl ?_|refine Zhj rfl ?_|(refine Zhh rfl ?_; (first|refine Zhg (Zmp rfl) ?_|refine Zhg (Zar rfl) ?_))
    first|refine Zhi rfl ?_|refine Zhj rfl ?_|(refine Zhh rfl ?_; (refine Zhg (Zny (q := .i64) rfl (by kernel_rfl) (by kernel_rfl) rfl rfl) ?_))
    refine Zhn 18 rfl (decide_eq_false (h)) ?_
    first|refine Zhg (Zdz rfl rfl) ?_|refine Zhg (Zd0 rfl rfl) ?_|refine Zhg (Za8 rfl rfl) ?_|refine Zhg (Za9 rfl rfl) ?_|refine Zhg (Za6 rfl rfl) ?_|refine Zhg (Za7 rfl rfl) ?_
    refine Zg3 ?_
    refine Ct.o ?_
    refine Zgf rfl ?_
    refine Ct.o ?_
    refine Zgb ?_
    first|refine Zhg (Zmp rfl) ?_|refine Zhg (Zar rfl) ?_
    refine Zhg (Znv rfl rfl (by kernel_rfl) rfl) ?_
    first|refine Zhg (Zmm rfl) ?_|refine Zhg (Zar rfl) ?_
    refine Zhg (Zco rfl rfl) ?_
    refine Zhg (Zco rfl rfl) ?_
    first|refine Zhg (Zms rfl) ?_|refine Zhg (Zas rfl) ?_
    first|refine Zhg (Za0 rfl) ?_|refine Zhg (Zas rfl) ?_
    refine Zg3 ?_
    refine Ct.o ?_
    refine Zgb ?_
    first|refine Zhg (Zau rfl) ?_|refine Zhg (Zar rfl) ?_
    first|refine Zhg (Zau rfl) ?_|refine Zhg (Zar rfl) ?_
    first|refine Zhi rfl ?_|refine Zhj rfl ?_|(refine Zhh rfl ?_; (first|refine Zhg (Zmp rfl) ?_|refine Zhg (Zar rfl) ?_))
    first|refine Zhi rfl ?_|refine Zhj rfl ?_|(refine Zhh rfl ?_; (first|refine Zhg (Zmp rfl) ?_|refine Zhg (Zar rfl) ?_))
    refine Zhi rfl ?_
    first|refine Zhg (Zdz rfl rfl) ?_|refine Zhg (Zd0 rfl rfl) ?_|refine Zhg (Za8 rfl rfl) ?_|refine Zhg (Za9 rfl rfl) ?_|refine Zhg (Za6 rfl rfl) ?_|refine Zhg (Za7 rfl rfl) ?_
    refine Zg3 ?_
    refine Ct.o ?_
    refine Zgf rfl ?_
    refine Ct.o ?_
    refine Zgb ?_
    first|refine Zhg (Zmp rfl) ?_|refine Zhg (Zar rfl) ?_
    refine Zg3 ?_
    refine Ct.o ?_
    refine Zgb ?_
    refine Zhg (Znv rfl rfl (by kernel_rfl) rfl) ?_
    refine Zhg (Zco rfl rfl) ?_
    refine Zhg (Zco rfl rfl) ?_
    refine Zg3 ?_
    refine Ct.o ?_
    refine Zgf rfl ?_
    refine Ct.o ?_
    refine Zgb ?_
    refine Zhg (Znv rfl rfl (by kernel_rfl) rfl) ?_
    refine Zhg (Zco rfl rfl) ?_
    refine Zhg (Zco rfl rfl) ?_
    refine Zg3 ?_
    refine Ct.o ?_
    refine Zgf rfl ?_
    refine Ct.o ?_
    refine Zgb ?_
    first|refine Zhg (Zms rfl) ?_|refine Zhg (Zas rfl) ?_
    refine Zg3 ?_
    refine Ct.o ?_
    refine Zgb ?_
    first|refine Zhg (Za0 rfl) ?_|refine Zhg (Zas rfl) ?_
    refine Zg3 ?_
    refine Ct.o ?_
    refine rx1 (Zha rfl (Zg7)) ?_
    exact ⟨_, ⟨by simp [h], rfl⟩, qI⟩
theorem is_x (e : Int) : Con Tryz.prog 45 [.iface 31 (.int .i64 e), .iface 31 (.int .i64 0)] [] (fun r M => r = .bool (decide (e = 0)) ∧ M = []) := by
  refine fn_x Tryz.func45 rfl rfl rfl Tryz.mixed (by kernel_rfl) ?_
  intro w0
  refine Ct.o ?_
  refine Zgb ?_
  first|refine Zhg (Za0 rfl) ?_|refine Zhg (Zas rfl) ?_
  refine Zg3 ?_
  refine Ct.o ?_
  refine Zgb ?_
  first|refine Zhg (Zmp rfl) ?_|refine Zhg (Zar rfl) ?_
  refine Zhg (Znw (by kernel_rfl) rfl rfl) ?_
  first|refine Zhg (Zau rfl) ?_|refine Zhg (Zar rfl) ?_
  first|refine Zhi rfl ?_|refine Zhj rfl ?_|(refine Zhh rfl ?_; (first|refine Zhg (Zmp rfl) ?_|refine Zhg (Zar rfl) ?_))
  first|refine Zhi rfl ?_|refine Zhj rfl ?_|(refine Zhh rfl ?_; (refine Zhg (Znw (by kernel_rfl) rfl rfl) ?_))
  first|refine Zhg (Zdz rfl rfl) ?_|refine Zhg (Zd0 rfl rfl) ?_|refine Zhg (Za8 rfl rfl) ?_|refine Zhg (Za9 rfl rfl) ?_|refine Zhg (Za6 rfl rfl) ?_|refine Zhg (Za7 rfl rfl) ?_
  refine Zg3 ?_
  refine Ct.o ?_
  refine Zgf rfl ?_
  refine Ct.o ?_
  refine Zgb ?_
  first|refine Zhg (Zmp rfl) ?_|refine Zhg (Zar rfl) ?_
  refine Zhg (Zh9 rfl (ext_typeOf 0) rfl) ?_
  refine Zhg (Znu rfl met_comparable ext_comparable rfl) ?_
  first|refine Zhg (Za0 rfl) ?_|refine Zhg (Zas rfl) ?_
  refine Zg3 ?_
  refine Ct.o ?_
  refine Zgb ?_
  first|refine Zhg (Zmp rfl) ?_|refine Zhg (Zar rfl) ?_
  first|refine Zhg (Zmp rfl) ?_|refine Zhg (Zar rfl) ?_
  first|refine Zhg (Zau rfl) ?_|refine Zhg (Zar rfl) ?_
  refine Zh8 rfl (by kernel_rfl) (is2_x e) rfl qT ?_
  rintro _ _ ⟨rfl, rfl⟩
  refine Zg2 qA ?_
  first|refine Zhg (Za0 rfl) ?_|refine Zhg (Zas rfl) ?_
  refine Zg3 ?_
  refine Ct.o ?_
  refine rx1 (Zha rfl (Zg7)) ?_
  exact ⟨_, ⟨rfl, rfl⟩, qI⟩
theorem fails_x (e : Int) : Con Tryz.prog 29 [.iface 31 (.int .i64 e)] [] (fun r M => r = .bool (!decide (e = 0)) ∧ M = []) := by
  refine fn_x Tryz.func29 rfl rfl rfl Tryz.mixed (by kernel_rfl) ?_
  intro w0
  refine Ct.o ?_
  refine Zgb ?_
  first|refine Zhg (Za0 rfl) ?_|refine Zhg (Zas rfl) ?_
  refine Zg3 ?_
  refine Ct.o ?_
  refine Zgb ?_
  first|refine Zhg (Zmp rfl) ?_|refine Zhg (Zar rfl) ?_
  refine Zhg (Zm2 rfl) ?_
  refine Zh8 rfl (by kernel_rfl) (is_x e) rfl qT ?_
  rintro _ _ ⟨rfl, rfl⟩
  refine Zg2 qA ?_
  refine Zhg (Zb0 rfl) ?_
  first|refine Zhg (Za0 rfl) ?_|refine Zhg (Zas rfl) ?_
  refine Zg3 ?_
  refine Ct.o ?_
  refine rx1 (Zha rfl (Zg7)) ?_
  exact ⟨_, ⟨rfl, rfl⟩, qI⟩
end Go.Sl

/- page: head, more, Head, walked; two places compared. -/
set_option maxHeartbeats 4000000
set_option maxRecDepth 10000
set_option linter.unusedVariables false
set_option linter.unusedSimpArgs false
namespace Go.Sl
open Go Go.Proofs
attribute [local irreducible] cl pt own old pur ex all den denOps denS xOps xC cX CX xthen xblk xcut xloop xgo xng retX resX Calls PV Rd Con
abbrev plc (p : Plc) : Array Value := #[u64b p.round, u32b p.counter, u32b p.page, u32b p.version]
def plits (p : Plc) : List Lit := [.int .u64 p.round.toNat, .int .u32 p.counter.toNat, .int .u32 p.page.toNat, .int .u32 p.version.toNat]
theorem wf_u64 (x : BitVec 64) : (Lit.int .u64 (x.toNat : Int)).wf = true := by
  have := x.isLt
  simp only [Lit.wf, Bool.and_eq_true, decide_eq_true_eq]
  have e1 : IntKind.u64.min = 0 := by decide
  have e2 : IntKind.u64.max = 18446744073709551615 := by decide
  omega
theorem wf_u32 (x : BitVec 32) : (Lit.int .u32 (x.toNat : Int)).wf = true := by
  have := x.isLt
  simp only [Lit.wf, Bool.and_eq_true, decide_eq_true_eq]
  have e1 : IntKind.u32.min = 0 := by decide
  have e2 : IntKind.u32.max = 4294967295 := by decide
  omega
theorem plits_is (p : Plc) : Tryz.prog.keyLits 4 27 (plc p).toList = some (plits p) := by
  have i1 := lits_int (d := 2) Tryz.underlying24 (wf_u64 p.round)
  have i2 := lits_int (d := 2) Tryz.underlying25 (wf_u32 p.counter)
  have i3 := lits_int (d := 2) Tryz.underlying25 (wf_u32 p.page)
  have i4 := lits_int (d := 2) Tryz.underlying25 (wf_u32 p.version)
  have c1 : Tryz.prog.cellsOf 24 = 1 := by kernel_rfl
  have c2 : Tryz.prog.cellsOf 25 = 1 := by kernel_rfl
  have c4 : Tryz.prog.cellsOf 27 = 4 := by kernel_rfl
  unfold Program.keyLits
  rw [Tryz.underlying27]
  simp only [plc, List.length_cons, List.length_nil, c4]
  rw [if_pos (by simp)]
  simp only [List.mapM_cons, List.mapM_nil, c1, c2, List.drop_zero, List.drop_succ_cons, List.take_succ_cons, List.take_zero]
  simp only [i1, i2, i3, i4]
  simp [plits]
theorem plc_form (p : Plc) : (Value.agg (plc p)).formed Tryz.prog 27 = true := by
  have c4 : Tryz.prog.cellsOf 27 = 4 := by kernel_rfl
  simp [Value.formed, Tryz.underlying27, c4]
theorem plits_inj (a b : Plc) : a = b ↔ plits a = plits b := by
  constructor
  · rintro rfl; rfl
  · intro h
    obtain ⟨a1, a2, a3, a4⟩ := a
    obtain ⟨b1, b2, b3, b4⟩ := b
    simp only [plits, List.cons.injEq, Lit.int.injEq, true_and, and_true] at h
    obtain ⟨h1, h2, h3, h4⟩ := h
    have h1 : a1 = b1 := BitVec.eq_of_toNat_eq (by omega)
    have h2 : a2 = b2 := BitVec.eq_of_toNat_eq (by omega)
    have h3 : a3 = b3 := BitVec.eq_of_toNat_eq (by omega)
    have h4 : a4 = b4 := BitVec.eq_of_toNat_eq (by omega)
    rw [h1, h2, h3, h4]
theorem pv_neq_plc {ρ : Env} {x y : Operand} {T' : Nat} (a b : Plc) (hx : ev ρ x = .agg (plc a)) (hy : ev ρ y = .agg (plc b)) : PV Tryz.prog (.binOp .neq 27 x y T') ρ (.bool (decide (¬ a = b))) :=
  Zf7 (m := 4) hx hy (by kernel_rfl) (by omega) (by kernel_rfl) (plc_form a) (plc_form b) (plits_is a) (plits_is b) (plits_inj a b)
attribute [local irreducible] leB
theorem pghead_x (p : Plc) : Con Tryz.prog 22 [.agg (plc p)] [] (fun r M => r = .agg ((headB p).map u8b).toArray ∧ M = []) := by
  have hl := headB_len p
  have hhb : ([] ++ leB p.round 8) ++ leB p.counter 4 = headB p := rfl
  refine fn_x Tryz.func22 rfl rfl rfl Tryz.mixed (by kernel_rfl) ?_
  intro w0
  refine Ct.o ?_
  refine Zgb ?_
  refine Zh5 rfl ?_; intro b1
  refine Zhz (cs := ((List.replicate 12 0#8).map u8b).toArray) rfl ?_; intro b2
  refine Zg3 ?_
  refine Ct.o ?_
  refine Zgb ?_
  first|refine Zhg (Zl8 rfl) ?_|refine Zhg (Zce rfl) ?_
  refine Zhp rfl qH rfl ?_
  refine Zh8 rfl (by kernel_rfl) (put64_x (L := []) p.round Bs.nil (by simp)) rfl qT ?_
  rintro _ _ ⟨pa, pc1, rfl, rfl⟩
  refine Zg2 qA ?_
  first|refine Zhg (Za2 rfl) ?_|refine Zhg (Zas rfl) ?_
  refine Zg3 ?_
  refine Ct.o ?_
  refine Zgb ?_
  first|refine Zhg (Zaw rfl) ?_|refine Zhg (Zar rfl) ?_
  first|refine Zhg (Zl8 rfl) ?_|refine Zhg (Zce rfl) ?_
  refine Zhp rfl qH rfl ?_
  refine Zh8 rfl (by kernel_rfl) (put32_x (L := [own 5 1 (.slice pa ([] ++ leB p.round 8).length pc1) ([] ++ leB p.round 8).length (([] ++ leB p.round 8).map u8b)]) p.counter (Bs.own .here) (by simp [leB_len])) rfl qT ?_
  rintro _ _ ⟨qa, qc, rfl, rfl⟩
  refine Zg2 qA ?_
  rw [hhb, hl]; refine Zg0 (fun F w H => own_some (a := qa) qH (by omega) H) ?_; rintro ⟨g, rfl⟩; refine Zhg (Zl9 rfl (by omega)) ?_
  refine Zfg rfl ((Rd.ag0 (Rd.own qH) (by omega))) ?_
  first|refine Zhy rfl rfl qR qZ qN qZ ?_|refine Zhx rfl rfl qR qZ qN qZ rfl ?_
  refine Zg3 ?_
  refine Ct.o ?_
  refine rx1 (Zhe rfl qH qZ (Zg7)) ?_
  exact ⟨_, ⟨rfl, rfl⟩, qI⟩
theorem pgmore_x (p : Plc) : Con Tryz.prog 24 [.agg (plc p)] [] (fun r M => ∃ a c, r = .slice a (moreB p).length c ∧ M = [own 5 1 r (moreB p).length ((moreB p).map u8b)]) := by
  have hmb : ([] ++ leB p.page 4) ++ leB p.version 4 = moreB p := rfl
  refine fn_x Tryz.func24 rfl rfl rfl Tryz.mixed (by kernel_rfl) ?_
  intro w0
  refine Ct.o ?_
  refine Zgb ?_
  refine Zh5 rfl ?_; intro b1
  first|refine Zhg (Za2 rfl) ?_|refine Zhg (Zas rfl) ?_
  refine Zg3 ?_
  refine Ct.o ?_
  refine Zij ([cl b1 (plc p) 27]) [2, 4] (.q 0 (.q 3 (.r 1 (.r 4 (.e 2 true (.e 5 false (.q 6 .nil))))))) (by kernel_rfl) (by kernel_rfl) (Imp.arr qV) ?_
  first|refine Zim rfl (Zl8 rfl) ?_|refine Zim rfl (Zce rfl) ?_
  first|refine Zim rfl (Zl8 rfl) ?_|refine Zim rfl (Zce rfl) ?_
  refine Ziv rfl rfl qH rfl ?_
  refine Ziv rfl rfl qH rfl ?_
  refine Ziq rfl ?_
  refine Zh8 rfl (by kernel_rfl) (put32_x (L := []) p.page Bs.nil (by simp)) rfl qT ?_
  rintro _ _ ⟨pa, pc1, rfl, rfl⟩
  refine Zg2 qA ?_
  refine Zg3 ⟨fun _ => Imp.arr qV, ?_⟩
  refine Ziq rfl ?_
  refine Zh8 rfl (by kernel_rfl) (put32_x (L := [own 5 1 (.slice pa ([] ++ leB p.page 4).length pc1) ([] ++ leB p.page 4).length (([] ++ leB p.page 4).map u8b)]) p.version (Bs.own .here) (by simp [leB_len])) rfl qT ?_
  rintro _ _ ⟨qa, qc, rfl, rfl⟩
  refine Zg2 qA ?_
  refine Zg3 ⟨(fun hh => Bool.noConfusion hh), ?_⟩
  first|refine Zim rfl (Za2 rfl) ?_|refine Zim rfl (Zas rfl) ?_
  refine Zik ?_
  refine Ct.o ?_
  rw [hmb]
  refine rx1 (Zhc rfl (Zg7)) ?_
  exact ⟨_, ⟨qa, qc, rfl, rfl⟩, qI⟩
theorem pgHead_x {L : List Asrt} {v : Value} {b : List Byte} (h : Bs L v b) (hb : b.length ≤ 140737488351232) :
    Con Tryz.prog 16 [v] L (fun r M => r = .tuple #[u64b (pgHeadR b).1, u32b (pgHeadR b).2.1, nvv (pgHeadR b).2.2] ∧ L = M) := by
  refine Con.get (fun w0 w F H => h.sh _ _ _ H) ?_
  rintro ⟨va, vc, rfl, hvc, hvcm⟩
  by_cases h28 : b.length < 28
  · have e : pgHeadR b = (0#64, 0#32, 20) := if_pos h28
    rw [e]
    refine fn_x Tryz.func16 rfl rfl rfl Tryz.mixed (by kernel_rfl) ?_
    intro w0
    refine Ct.o ?_
    refine Zgb ?_
    first|refine Zhg (Zaz rfl) ?_|refine Zhg (Zas rfl) ?_
    first|refine Zhg (Zaz rfl) ?_|refine Zhg (Zas rfl) ?_
    first|refine Zhg (Zaz rfl) ?_|refine Zhg (Zas rfl) ?_
    refine Zg3 ?_
    refine Ct.o ?_
    refine Zgb ?_
    first|refine Zhg (Zaw rfl) ?_|refine Zhg (Zar rfl) ?_
    first|refine Zhg (Zcr rfl) ?_|refine Zhg (Zct) ?_|refine Zhg (Zcu rfl) ?_
    first|refine Zhg (Zmf (b := 28) rfl rfl) ?_|refine Zhg (Zbn rfl rfl) ?_
    refine Zhm 10 rfl (decide_eq_true (h28)) ?_
    refine Zg3 ?_
    refine Ct.o ?_
    refine Zge rfl ?_
    refine Ct.o ?_
    refine Zgb ?_
    first|refine Zhg (Zaz rfl) ?_|refine Zhg (Zas rfl) ?_
    first|refine Zhg (Zaz rfl) ?_|refine Zhg (Zas rfl) ?_
    first|refine Zhg (Zaz rfl) ?_|refine Zhg (Zas rfl) ?_
    refine Zg3 ?_
    refine Ct.o ?_
    refine rx3 (Zg9 rfl (Zg9 rfl (Zg9 rfl (Zg7)))) ?_
    exact ⟨_, ⟨rfl, rfl⟩, qI⟩
  · have e : pgHeadR b = (lowB 64 (b.take 8), lowB 32 ((b.drop 8).take 4), 0) := if_neg h28
    rw [e]
    have hu := fun p g => u64_x (p := p) (g := g) (o := 0) (len := b.length) (c := b.length) b (by omega) (by omega) (by omega) (by omega) (Nat.le_refl _)
    have hv := fun p g => u32_x (p := p) (g := g) (o := 0 + 8) (len := b.length - 8) (c := b.length - 8) b (by omega) (by omega) (by omega) (by omega) (Nat.le_refl _)
    simp only [List.drop_zero] at hu
    simp only [Nat.zero_add] at hu hv
    refine fn_x Tryz.func16 rfl rfl rfl Tryz.mixed (by kernel_rfl) ?_
    intro w0
    refine Ct.o ?_
    refine Zgb ?_
    first|refine Zhg (Zaz rfl) ?_|refine Zhg (Zas rfl) ?_
    first|refine Zhg (Zaz rfl) ?_|refine Zhg (Zas rfl) ?_
    first|refine Zhg (Zaz rfl) ?_|refine Zhg (Zas rfl) ?_
    refine Zg3 ?_
    refine Ct.o ?_
    refine Zgb ?_
    first|refine Zhg (Zaw rfl) ?_|refine Zhg (Zar rfl) ?_
    first|refine Zhg (Zcr rfl) ?_|refine Zhg (Zct) ?_|refine Zhg (Zcu rfl) ?_
    first|refine Zhg (Zmf (b := 28) rfl rfl) ?_|refine Zhg (Zbn rfl rfl) ?_
    refine Zhn 10 rfl (decide_eq_false (h28)) ?_
    refine Zg3 ?_
    refine Ct.o ?_
    refine Zgf rfl ?_
    refine Ct.o ?_
    refine Zgb ?_
    first|refine Zhg (Zaw rfl) ?_|refine Zhg (Zar rfl) ?_
    refine Zh8 rfl (by kernel_rfl) (newReader_x h hb) rfl qT ?_
    rintro _ _ ⟨p, g, rfl, rfl⟩
    refine Zg2 qA ?_
    first|refine Zhg (Za1 rfl) ?_|refine Zhg (Zas rfl) ?_
    refine Zg3 ?_
    refine Ct.o ?_
    refine Zgb ?_
    first|refine Zhg (Zav rfl) ?_|refine Zhg (Zar rfl) ?_
    refine Zh8 rfl (by kernel_rfl) (hu p g) rfl qT ?_
    rintro _ _ ⟨rfl, rfl⟩
    refine Zg2 qA ?_
    first|refine Zhg (Zaz rfl) ?_|refine Zhg (Zas rfl) ?_
    refine Zg3 ?_
    refine Ct.o ?_
    refine Zgb ?_
    first|refine Zhg (Zav rfl) ?_|refine Zhg (Zar rfl) ?_
    refine Zh8 rfl (by kernel_rfl) (hv p g) rfl qT ?_
    rintro _ _ ⟨rfl, rfl⟩
    refine Zg2 qA ?_
    first|refine Zhg (Zaz rfl) ?_|refine Zhg (Zas rfl) ?_
    refine Zg3 ?_
    refine Ct.o ?_
    refine Zgb ?_
    first|refine Zhg (Zat rfl) ?_|refine Zhg (Zar rfl) ?_
    first|refine Zhg (Zat rfl) ?_|refine Zhg (Zar rfl) ?_
    first|refine Zhg (Zav rfl) ?_|refine Zhg (Zar rfl) ?_
    refine Zh8 rfl (by kernel_rfl) (rerr_x) rfl qT ?_
    rintro _ _ ⟨rfl, rfl⟩
    refine Zg2 qA ?_
    first|refine Zhg (Zaz rfl) ?_|refine Zhg (Zas rfl) ?_
    first|refine Zhg (Zaz rfl) ?_|refine Zhg (Zas rfl) ?_
    first|refine Zhg (Zaz rfl) ?_|refine Zhg (Zas rfl) ?_
    refine Zg3 ?_
    refine Ct.o ?_
    refine rx3 (Zg9 rfl (Zg9 rfl (Zg9 rfl (Zg7)))) ?_
    exact ⟨_, ⟨rfl, rfl⟩, qI⟩
end Go.Sl

/- tag: New, take, Write, walked. -/
set_option maxHeartbeats 4000000
set_option maxRecDepth 10000
set_option linter.unusedVariables false
set_option linter.unusedSimpArgs false
namespace Go.Sl
open Go Go.Proofs
attribute [local irreducible] cl pt own old pur ex all den denOps denS xOps xC cX CX xthen xblk xcut xloop xgo xng retX resX Calls PV Rd Con
theorem new_c (key : List Byte) (hk : key.length = 32) : Con Tryz.prog 56 [.agg (key.map u8b).toArray] [] (fun v M => ∃ p, v = .pointer (some ⟨p, 0, none⟩) ∧ M = [cl p (pc (newS key)) 109]) := by
  refine fn_x Tryz.func56 rfl rfl rfl Tryz.mixed (by kernel_rfl) ?_
  intro w0
  refine Ct.o ?_
  refine Zgb ?_
  refine Zh5 rfl ?_; intro b1
  first|refine Zhg (Za1 rfl) ?_|refine Zhg (Zas rfl) ?_
  refine Zg3 ?_
  refine Ct.o ?_
  refine Zgb ?_
  refine Zhg (Zdm (cs := #[u64b 0#64, u64b 0#64, u64b 0#64, u64b 0#64, u64b 0#64, u64b 0#64, u64b 0#64, u8b 0#8, u8b 0#8, u8b 0#8, u8b 0#8, u8b 0#8, u8b 0#8, u8b 0#8, u8b 0#8, u8b 0#8, u8b 0#8, u8b 0#8, u8b 0#8, u8b 0#8, u8b 0#8, u8b 0#8, u8b 0#8, .int .i64 0]) (by kernel_rfl)) ?_
  refine Zh5 rfl ?_; intro b5
  first|refine Zhg (Za1 rfl) ?_|refine Zhg (Zas rfl) ?_
  refine Zg3 ?_
  refine Ct.o ?_
  refine Zij (_) [] (.q 0 (.q 1 (.q 2 (.q 6 (.q 7 (.r 3 (.e 4 false (.q 5 (.q 8 (.e 9 false .nil)))))))))) (by kernel_rfl) (by kernel_rfl) (Imp.refl _) ?_
  first|refine Zim rfl (Zav rfl) ?_|refine Zim rfl (Zar rfl) ?_
  refine Zim rfl (Zmy (h := 8) rfl rfl) ?_
  refine Zim rfl (Zl9 rfl) ?_
  refine Zim rfl (Zba rfl) ?_
  first|refine Zim rfl (Zl8 rfl) ?_|refine Zim rfl (Zce rfl) ?_
  refine Zix (n := 8) rfl rfl qH qZ (ext_map _ _ _) ?_
  refine Ziq rfl ?_
  refine Zh8 rfl (by kernel_rfl) (word_c (List.take 8 key) (by simp; omega)) rfl qT ?_
  rintro _ _ ⟨rfl, rfl⟩
  refine Zg2 qA ?_
  refine Zg3 ⟨(fun hh => Bool.noConfusion hh), ?_⟩
  refine Zim rfl (Zlf (y := 1152921487695413247#64) rfl rfl) ?_
  first|refine Zim rfl (Zl5 (n := 0) rfl rfl) ?_|refine Zim rfl (Zl3 (n := 0) rfl rfl) ?_
  refine Ziq rfl ?_
  refine Zht rfl rfl qR qZ rfl ?_
  refine Zg3 ⟨(fun hh => Bool.noConfusion hh), ?_⟩
  refine Zik ?_
  refine Ct.o ?_
  refine Zij (_) [] (.q 0 (.q 1 (.q 2 (.q 6 (.q 7 (.r 3 (.e 4 false (.q 5 (.q 8 (.e 9 false .nil)))))))))) (by kernel_rfl) (by kernel_rfl) (Imp.refl _) ?_
  first|refine Zim rfl (Zav rfl) ?_|refine Zim rfl (Zar rfl) ?_
  refine Zim rfl (Zmx (l := 8) (h := 16) rfl rfl rfl) ?_
  refine Zim rfl (Zl9 rfl) ?_
  refine Zim rfl (Zba rfl) ?_
  first|refine Zim rfl (Zl8 rfl) ?_|refine Zim rfl (Zce rfl) ?_
  refine Zix (n := 8) rfl rfl qH qZ (ext_map _ _ _) ?_
  refine Ziq rfl ?_
  refine Zh8 rfl (by kernel_rfl) (word_c ((key.drop 8).take 8) (by simp; omega)) rfl qT ?_
  rintro _ _ ⟨rfl, rfl⟩
  refine Zg2 qA ?_
  refine Zg3 ⟨(fun hh => Bool.noConfusion hh), ?_⟩
  refine Zim rfl (Zlf (y := 1152921487695413244#64) rfl rfl) ?_
  first|refine Zim rfl (Zl5 (n := 1) rfl rfl) ?_|refine Zim rfl (Zl3 (n := 1) rfl rfl) ?_
  refine Ziq rfl ?_
  refine Zht rfl rfl qR qZ rfl ?_
  refine Zg3 ⟨(fun hh => Bool.noConfusion hh), ?_⟩
  refine Zik ?_
  refine Ct.o ?_
  refine Zij (_) [] (.q 0 (.q 1 (.q 2 (.q 5 (.q 6 (.r 3 (.e 4 false (.q 7 (.e 8 false .nil))))))))) (by kernel_rfl) (by kernel_rfl) (Imp.refl _) ?_
  first|refine Zim rfl (Zav rfl) ?_|refine Zim rfl (Zar rfl) ?_
  refine Zim rfl (Zmx (l := 16) (h := 24) rfl rfl rfl) ?_
  refine Zim rfl (Zl9 rfl) ?_
  refine Zim rfl (Zba rfl) ?_
  first|refine Zim rfl (Zl8 rfl) ?_|refine Zim rfl (Zce rfl) ?_
  refine Zix (n := 8) rfl rfl qH qZ (ext_map _ _ _) ?_
  refine Ziq rfl ?_
  refine Zh8 rfl (by kernel_rfl) (word_c ((key.drop 16).take 8) (by simp; omega)) rfl qT ?_
  rintro _ _ ⟨rfl, rfl⟩
  refine Zg2 qA ?_
  refine Zg3 ⟨(fun hh => Bool.noConfusion hh), ?_⟩
  first|refine Zim rfl (Zl5 (n := 0) rfl rfl) ?_|refine Zim rfl (Zl3 (n := 0) rfl rfl) ?_
  refine Ziq rfl ?_
  refine Zht rfl rfl qR qZ rfl ?_
  refine Zg3 ⟨(fun hh => Bool.noConfusion hh), ?_⟩
  refine Zik ?_
  refine Ct.o ?_
  refine Zij (_) [] (.q 0 (.q 1 (.q 2 (.q 5 (.q 6 (.r 3 (.e 4 false (.q 7 (.e 8 false .nil))))))))) (by kernel_rfl) (by kernel_rfl) (Imp.refl _) ?_
  first|refine Zim rfl (Zav rfl) ?_|refine Zim rfl (Zar rfl) ?_
  refine Zim rfl (Zmx (l := 24) (h := 32) rfl rfl rfl) ?_
  refine Zim rfl (Zl9 rfl) ?_
  refine Zim rfl (Zba rfl) ?_
  first|refine Zim rfl (Zl8 rfl) ?_|refine Zim rfl (Zce rfl) ?_
  refine Zix (n := 8) rfl rfl qH qZ (ext_map _ _ _) ?_
  refine Ziq rfl ?_
  refine Zh8 rfl (by kernel_rfl) (word_c ((key.drop 24).take 8) (by simp; omega)) rfl qT ?_
  rintro _ _ ⟨rfl, rfl⟩
  refine Zg2 qA ?_
  refine Zg3 ⟨(fun hh => Bool.noConfusion hh), ?_⟩
  first|refine Zim rfl (Zl5 (n := 1) rfl rfl) ?_|refine Zim rfl (Zl3 (n := 1) rfl rfl) ?_
  refine Ziq rfl ?_
  refine Zht rfl rfl qR qZ rfl ?_
  refine Zg3 ⟨(fun hh => Bool.noConfusion hh), ?_⟩
  refine Zik ?_
  refine Ct.o ?_
  refine Zgb ?_
  first|refine Zhg (Zav rfl) ?_|refine Zhg (Zar rfl) ?_
  first|refine Zhg (Za1 rfl) ?_|refine Zhg (Zas rfl) ?_
  refine Zg3 ?_
  refine Ct.o ?_
  refine rx1 (Zhb rfl (Zg7)) ?_
  have e : (key.drop 24).take 8 = key.drop 24 := List.take_of_length_le (by simp; omega)
  rw [e]
  exact ⟨_, ⟨b5, rfl, rfl⟩, by exact Imp.arr (by repeat (first|exact Arr.nil|exact Arr.stop|refine Arr.cons (by repeat constructor) ?_|refine Arr.skip ?_))⟩
theorem take_c {p : Nat} (t : PolyS) (ht : t.rest.length = 16) (b : List Byte) (hb : b.length = 16) (top : BitVec 64) : Con Tryz.prog 70 [.pointer (some ⟨p, 0, none⟩), .agg (b.map u8b).toArray, u64b top] [cl p (pc t) 109]
    (fun v M => v = .tuple #[] ∧ M = [cl p (pc (setH t (takeW t.h t.r b top))) 109]) := by
  have hsz := pc_size ht
  refine fn_x Tryz.func70 rfl rfl rfl Tryz.mixed (by kernel_rfl) ?_
  intro w0
  refine Ct.o ?_
  refine Zgb ?_
  refine Zh5 rfl ?_; intro b4
  refine Zg3 ?_
  refine Ct.o ?_
  refine Zgb ?_
  first|refine Zhg (Zav rfl) ?_|refine Zhg (Zar rfl) ?_
  refine Zhg (Zba rfl) ?_
  first|refine Zhg (Zl8 rfl) ?_|refine Zhg (Zce rfl) ?_
  refine Zhq (n := 3) rfl qH qZ (pc_h t) ?_
  refine Zhz (cs := #[u64b 0#64, u64b 0#64, u64b 0#64]) rfl ?_; intro b6
  first|refine Zhy rfl rfl qR qZ qN qZ ?_|refine Zhx rfl rfl qR qZ qN qZ rfl ?_
  refine Zg3 ?_
  refine Ct.o ?_
  refine Zgb ?_
  first|refine Zhg (Zaz rfl) ?_|refine Zhg (Zas rfl) ?_
  refine Zg3 ?_
  refine Ct.o ?_
  refine Zij (_) [4, 5] (.q 0 (.q 2 (.q 3 (.r 1 (.r 4 (.e 5 true (.q 6 (.q 7 (.q 8 (.q 9 (.q 10 (.e 11 false (.q 12 .nil))))))))))))) (by kernel_rfl) (by kernel_rfl) (Imp.refl _) ?_
  first|refine Zim rfl (Zl5 (n := 0) rfl rfl) ?_|refine Zim rfl (Zl3 (n := 0) rfl rfl) ?_
  refine Zim rfl (Zmy (h := 8) rfl rfl) ?_
  refine Zim rfl (Zl9 rfl) ?_
  refine Ziv rfl rfl qH rfl ?_
  refine Zix (n := 8) rfl rfl qH qZ (ext_map _ _ _) ?_
  refine Ziq rfl ?_
  refine Zh8 rfl (by kernel_rfl) (word_c _ (by simp; omega)) rfl qT ?_
  rintro _ _ ⟨rfl, rfl⟩
  refine Zg2 qA ?_
  refine Zg3 ⟨fun _ => Imp.arr qV, ?_⟩
  refine Zim rfl (Zh9 rfl (ext_add64 _ _ 0#64 (by decide)) rfl) ?_
  first|refine Zim rfl (Zmm rfl) ?_|refine Zim rfl (Zar rfl) ?_
  refine Zim rfl (Zco rfl rfl) ?_
  refine Zim rfl (Zco rfl rfl) ?_
  first|refine Zim rfl (Zl5 (n := 0) rfl rfl) ?_|refine Zim rfl (Zl3 (n := 0) rfl rfl) ?_
  refine Ziq rfl ?_
  refine Zht rfl rfl qR qZ rfl ?_
  refine Zg3 ⟨(fun hh => Bool.noConfusion hh), ?_⟩
  first|refine Zim rfl (Zaz rfl) ?_|refine Zim rfl (Zas rfl) ?_
  refine Zik ?_
  refine Ct.o ?_
  refine Zij (_) [4, 5] (.q 0 (.q 2 (.q 3 (.q 6 (.r 1 (.r 4 (.e 5 true (.q 7 (.q 8 (.q 9 (.q 10 (.q 11 (.e 12 false (.q 13 .nil)))))))))))))) (by kernel_rfl) (by kernel_rfl) (Imp.refl _) ?_
  first|refine Zim rfl (Zl5 (n := 1) rfl rfl) ?_|refine Zim rfl (Zl3 (n := 1) rfl rfl) ?_
  refine Zim rfl (Zmx (l := 8) (h := 16) rfl rfl rfl) ?_
  refine Zim rfl (Zl9 rfl) ?_
  first|refine Zim rfl (Zat rfl) ?_|refine Zim rfl (Zar rfl) ?_
  refine Ziv rfl rfl qH rfl ?_
  refine Zix (n := 8) rfl rfl qH qZ (ext_map _ _ _) ?_
  refine Ziq rfl ?_
  refine Zh8 rfl (by kernel_rfl) (word_c _ (by simp; omega)) rfl qT ?_
  rintro _ _ ⟨rfl, rfl⟩
  refine Zg2 qA ?_
  refine Zg3 ⟨fun _ => Imp.arr qV, ?_⟩
  refine Zim rfl (Zh9 rfl (ext_add64 _ _ _ (carry_le _ _ _ (by decide))) rfl) ?_
  first|refine Zim rfl (Zmm rfl) ?_|refine Zim rfl (Zar rfl) ?_
  refine Zim rfl (Zco rfl rfl) ?_
  refine Zim rfl (Zco rfl rfl) ?_
  first|refine Zim rfl (Zl5 (n := 1) rfl rfl) ?_|refine Zim rfl (Zl3 (n := 1) rfl rfl) ?_
  refine Ziq rfl ?_
  refine Zht rfl rfl qR qZ rfl ?_
  refine Zg3 ⟨(fun hh => Bool.noConfusion hh), ?_⟩
  first|refine Zim rfl (Zaz rfl) ?_|refine Zim rfl (Zas rfl) ?_
  refine Zik ?_
  refine Ct.o ?_
  refine Zgb ?_
  first|refine Zhg (Zl5 (n := 2) rfl rfl) ?_|refine Zhg (Zl3 (n := 2) rfl rfl) ?_
  refine Zhp rfl qH rfl ?_
  first|refine Zhg (Zat rfl) ?_|refine Zhg (Zar rfl) ?_
  first|refine Zhg (Zat rfl) ?_|refine Zhg (Zar rfl) ?_
  refine Zhg (Zlc rfl rfl) ?_
  refine Zhg (Zlc rfl rfl) ?_
  first|refine Zhg (Zl5 (n := 2) rfl rfl) ?_|refine Zhg (Zl3 (n := 2) rfl rfl) ?_
  refine Zht rfl rfl qR qZ rfl ?_
  refine Zg3 ?_
  refine Ct.o ?_
  refine Zij (_) [5] (.q 0 (.q 2 (.q 3 (.q 4 (.r 1 (.r 5 (.e 6 false (.q 7 (.q 8 (.e 9 false .nil)))))))))) (by kernel_rfl) (by kernel_rfl) (Imp.refl _) ?_
  first|refine Zim rfl (Zav rfl) ?_|refine Zim rfl (Zar rfl) ?_
  first|refine Zim rfl (Zav rfl) ?_|refine Zim rfl (Zar rfl) ?_
  refine Zim rfl (Zba rfl) ?_
  first|refine Zim rfl (Zl8 rfl) ?_|refine Zim rfl (Zce rfl) ?_
  first|refine Ziy rfl rfl qH qZ ?_|refine Zix rfl rfl qH qZ rfl ?_
  refine Zix (n := 2) rfl rfl qH qZ (pc_r t) ?_
  refine Ziq rfl ?_
  refine Zh8 rfl (by kernel_rfl) (times_c (_, _, _) _) rfl qT ?_
  rintro _ _ ⟨rfl, rfl⟩
  refine Zg2 qA ?_
  refine Zg3 ⟨(fun hh => Bool.noConfusion hh), ?_⟩
  refine Zim rfl (Zba rfl) ?_
  first|refine Zim rfl (Zl8 rfl) ?_|refine Zim rfl (Zce rfl) ?_
  refine Ziq rfl ?_
  first|refine Zhy rfl rfl qR qZ qN qZ ?_|refine Zhx rfl rfl qR qZ qN qZ (pc_setH _ _) ?_
  refine Zg3 ⟨(fun hh => Bool.noConfusion hh), ?_⟩
  refine Zik ?_
  refine Ct.o ?_
  first|refine rx0 ?_|refine rx0n ?_
  have e : (b.drop 8).take (16 - 8) = b.drop 8 := List.take_of_length_le (by simp; omega)
  rw [e]
  exact ⟨_, ⟨rfl, rfl⟩, by exact Imp.arr (by repeat (first|exact Arr.nil|exact Arr.stop|refine Arr.cons (by repeat constructor) ?_|refine Arr.skip ?_))⟩
end Go.Sl

/- tag: Write, walked. -/
set_option maxHeartbeats 4000000
set_option maxRecDepth 10000
set_option linter.unusedVariables false
set_option linter.unusedSimpArgs false
namespace Go.Sl
open Go Go.Proofs
attribute [local irreducible] cl pt own old pur ex all den denOps denS xOps xC cX CX xthen xblk xcut xloop xgo xng retX resX Calls PV Rd Con
attribute [local irreducible] pc writeS takeW full put1 setU setH
theorem pc_eq {t u : PolyS} (h : t = u) (p : Nat) : cl p (pc t) 109 = cl p (pc u) 109 := by rw [h]
theorem write_nil_c (v : Value) (a : Option Addr) (n c : Nat) (hv : v = .slice a n c) : Con Tryz.prog 57 [.pointer none, v] [] (fun v M => v = .tuple #[.int .i64 0, .iface 31 (.int .i64 1)] ∧ M = []) := by
  subst hv
  refine fn_x Tryz.func57 rfl rfl rfl Tryz.mixed (by kernel_rfl) ?_
  intro w0
  refine Ct.o ?_
  refine Zgb ?_
  first|refine Zhg (Zaz rfl) ?_|refine Zhg (Zas rfl) ?_
  first|refine Zhg (Zms rfl) ?_|refine Zhg (Zas rfl) ?_
  refine Zg3 ?_
  refine Ct.o ?_
  refine Zgb ?_
  first|refine Zhg (Zav rfl) ?_|refine Zhg (Zar rfl) ?_
  refine Zhg (Zca rfl rfl) ?_
  refine Zg3 ?_
  refine Ct.o ?_
  refine Zge rfl ?_
  refine Ct.o ?_
  refine Zgb ?_
  refine Zhg (Zm2 rfl) ?_
  first|refine Zhg (Zaz rfl) ?_|refine Zhg (Zas rfl) ?_
  first|refine Zhg (Zms rfl) ?_|refine Zhg (Zas rfl) ?_
  refine Zg3 ?_
  refine Ct.o ?_
  refine rx2 (Zg9 rfl (Zg8 rfl (Zg7))) ?_
  exact ⟨_, ⟨rfl, rfl⟩, by exact Imp.arr (by repeat (first|exact Arr.nil|exact Arr.stop|refine Arr.cons (by repeat constructor) ?_|refine Arr.skip ?_))⟩
theorem setU_put1 (t : PolyS) (x : List Byte) : setU (setU (put1 t x) t.used) (t.used + x.length) = put1 t x := by unfold setU put1; rfl
theorem setU_used {t : PolyS} {n : Nat} (h : (setU t n).rest.length = 16) : (pc (setU t n))[23]? = some (.int .i64 n) := by
  rw [pc_used h]; unfold setU; rfl
theorem write_c {p : Nat} {L : List Asrt} (t : PolyS) (ht : PolyOk t) (b : List Byte) (a : Option Addr) (c : Nat) (hc : b.length ≤ c) (hcm : c ≤ 9223372036854775807) (hv : Rd L 1 (.slice a b.length c) b.length (b.map u8b)) :
    Con Tryz.prog 57 [.pointer (some ⟨p, 0, none⟩), .slice a b.length c] (cl p (pc t) 109 :: L)
      (fun v M => v = .tuple #[.int .i64 b.length, .nilIface] ∧ M = cl p (pc (writeS t b)) 109 :: L) := by
  refine fn_x Tryz.func57 rfl rfl rfl Tryz.mixed (by kernel_rfl) ?_
  intro w0
  refine Ct.o ?_
  refine Zgb ?_
  first|refine Zhg (Zaz rfl) ?_|refine Zhg (Zas rfl) ?_
  first|refine Zhg (Zms rfl) ?_|refine Zhg (Zas rfl) ?_
  refine Zg3 ?_
  refine Ct.o ?_
  refine Zgb ?_
  first|refine Zhg (Zav rfl) ?_|refine Zhg (Zar rfl) ?_
  refine Zhg (Zca rfl rfl) ?_
  refine Zg3 ?_
  refine Ct.o ?_
  refine Zgf rfl ?_
  refine Ct.o ?_
  refine Zgb ?_
  first|refine Zhg (Zaw rfl) ?_|refine Zhg (Zar rfl) ?_
  first|refine Zhg (Za2 rfl) ?_|refine Zhg (Zas rfl) ?_
  refine Zg3 ?_
  refine Ct.o ?_
  refine Zgo [(6, 7), (12, 49)] (by kernel_rfl)
    (fun s : Nat × Option Addr × Nat × Nat => s.2.2.2 = b.length - s.1 ∧ s.1 ≤ b.length ∧ b.length - s.1 ≤ s.2.2.1 ∧ Rd L 1 (.slice s.2.1 (b.length - s.1) s.2.2.1) (b.length - s.1) ((b.drop s.1).map u8b))
    (fun s => cl p (pc (writeS t (b.take s.1))) 109 :: L) (fun s => [(6, .slice s.2.1 s.2.2.2 s.2.2.1)]) (fun s => b.length - s.1) (0, a, c, b.length) ⟨rfl, Nat.zero_le _, hc, hv⟩ (by dsimp only; rw [writeS_zero]; exact Imp.refl _) ⟨rfl, trivial⟩ ?_
  rintro ⟨i, a, c, n⟩ u ⟨hn, hi, hc, hv⟩
  dsimp only at hn hi hc hv ⊢
  subst hn
  have hti : PolyOk (writeS t (b.take i)) := writeS_ok ht
  generalize hT : writeS t (b.take i) = T at hti
  have hu := hti.used
  have hsz := pc_size hti.rest
  refine Ct.o ?_
  refine Zgb ?_
  first|refine Zhg (Zaw rfl) ?_|refine Zhg (Zar rfl) ?_
  first|refine Zhg (Zcr rfl) ?_|refine Zhg (Zct) ?_|refine Zhg (Zcu rfl) ?_
  first|refine Zhg (Zmh (b := 0) rfl rfl) ?_|refine Zhg (Zbp rfl rfl) ?_
  refine Zg3 ?_
  refine Ct.o ?_
  refine Zgg rfl (fun hB => ?_) (fun hB => ?_)
  · obtain ⟨m, hm⟩ : ∃ m, m = min (b.length - i) (16 - T.used) := ⟨_, rfl⟩
    have hm0 : 0 < m := by omega
    obtain ⟨x, hx⟩ : ∃ x, x = (b.drop i).take m := ⟨_, rfl⟩
    have hxl : x.length = m := by rw [hx]; simp; omega
    have htot : b.take (i + m) = b.take i ++ x := by rw [hx, List.take_add]
    have hw : writeS t (b.take (i + m)) = full (put1 T x) := by rw [htot, writeS_append, hT, write_put hti (by omega)]
    have hcp : wr (pc T) (7 + T.used) (((b.drop i).map u8b).take (m * 1)) = pc (setU (put1 T x) T.used) := by
      rw [← pc_copy hti.rest (by omega), ← List.map_take, Nat.mul_one, ← hx]
    have hpr : (put1 T x).rest.length = 16 := put1_rest hti (by omega)
    have hpru : (setU (put1 T x) T.used).rest.length = 16 := by unfold setU; exact hpr
    have hsz2 : (pc (setU (put1 T x) T.used)).size = 24 := pc_size hpru
    have hsz3 : (pc (put1 T x)).size = 24 := pc_size hpr
    have hs1 : (pc (setU (put1 T x) T.used)).setIfInBounds 23 (.int .i64 ((T.used + m : Nat) : Int)) = pc (put1 T x) := by
      rw [pc_setUsed (t := setU (put1 T x) T.used) hpru (T.used + m), ← hxl, setU_put1]
    have hv2 : Rd L 1 (.slice (if c = m then a else a.map (·.add (m * 1))) (b.length - (i + m)) (c - m)) (b.length - (i + m)) ((b.drop (i + m)).map u8b) := by
      have := hv.cut (l := m) (by omega) hc
      rw [← List.map_drop, List.drop_drop] at this
      rwa [show b.length - (i + m) = b.length - i - m by omega]
    refine Ct.o ?_
    refine Zij (_) [] (.q 0 (.q 1 (.q 2 (.q 3 (.q 4 (.q 5 (.q 8 (.r 6 (.q 7 (.e 9 false (.q 10 .nil))))))))))) (by kernel_rfl) (by kernel_rfl) (Imp.refl _) ?_
    first|refine Zim rfl (Zav rfl) ?_|refine Zim rfl (Zar rfl) ?_
    refine Zim rfl (Zba rfl) ?_
    first|refine Zim rfl (Zl8 rfl) ?_|refine Zim rfl (Zce rfl) ?_
    first|refine Zim rfl (Zav rfl) ?_|refine Zim rfl (Zar rfl) ?_
    refine Zim rfl (Zba rfl) ?_
    first|refine Zim rfl (Zl8 rfl) ?_|refine Zim rfl (Zce rfl) ?_
    first|refine Zim rfl (Zaw rfl) ?_|refine Zim rfl (Zar rfl) ?_
    refine Ziv rfl rfl qH (pc_used hti.rest) ?_
    refine Zim rfl (Zmx (h := 16) rfl rfl rfl) ?_
    refine Ziq rfl ?_; refine Zib (c' := pc (setU (put1 T x) T.used)) rfl rfl (hv.imp Imp.tail) qR (by rw [hsz]; omega) (oneM_u8 _) (by rw [← hm]; exact hcp) ?_; refine Zg3 ⟨(fun hh => Bool.noConfusion hh), ?_⟩
    first|refine Zim rfl (Zaz rfl) ?_|refine Zim rfl (Zas rfl) ?_
    refine Zik ?_
    refine Ct.o ?_
    rw [← hm]
    refine Ct.o ?_
    refine Zgb ?_
    first|refine Zhg (Zav rfl) ?_|refine Zhg (Zar rfl) ?_
    refine Zhg (Zba rfl) ?_
    first|refine Zhg (Zl8 rfl) ?_|refine Zhg (Zce rfl) ?_
    refine Zhp rfl qH (setU_used hpru) ?_
    first|refine Zhg (Zat rfl) ?_|refine Zhg (Zar rfl) ?_
    first|refine Zhg (Zma rfl rfl) ?_|refine Zhg (Zbg rfl rfl) ?_
    refine Zhg (Zba rfl) ?_
    first|refine Zhg (Zl8 rfl) ?_|refine Zhg (Zce rfl) ?_
    refine Zht rfl rfl qR qZ (hs1) ?_
    refine Zg3 ?_
    refine Ct.o ?_
    refine Zgb ?_
    first|refine Zhg (Zaw rfl) ?_|refine Zhg (Zar rfl) ?_
    first|refine Zhg (Zat rfl) ?_|refine Zhg (Zar rfl) ?_
    refine Zhg (Zm1 (l := m) (h := b.length - i) rfl rfl rfl (by omega) (by omega)) ?_
    first|refine Zhg (Za2 rfl) ?_|refine Zhg (Zas rfl) ?_
    refine Zg3 ?_
    refine Ct.o ?_
    refine Zgb ?_
    first|refine Zhg (Zav rfl) ?_|refine Zhg (Zar rfl) ?_
    refine Zhg (Zba rfl) ?_
    first|refine Zhg (Zl8 rfl) ?_|refine Zhg (Zce rfl) ?_
    refine Zhp rfl qH (pc_used hpr) ?_
    first|refine Zhg (Zmj (b := 16) rfl rfl) ?_|refine Zhg (Zbr rfl rfl) ?_
    refine Zg3 ?_
    refine Ct.o ?_
    rw [show b.length - i - m = b.length - (i + m) by omega]
    refine Zgg rfl (fun hB2 => ?_) (fun hB2 => ?_)
    · have hprh : (setH (put1 T x) (takeW (put1 T x).h (put1 T x).r (put1 T x).rest 1#64)).rest.length = 16 := by unfold setH; exact hpr
      have hfull : full (put1 T x) = setU (setH (put1 T x) (takeW (put1 T x).h (put1 T x).r (put1 T x).rest 1#64)) 0 := by rw [full, if_pos hB2]
      have hsz4 : (pc (setH (put1 T x) (takeW (put1 T x).h (put1 T x).r (put1 T x).rest 1#64))).size = 24 := pc_size hprh
      have hs2 : (pc (setH (put1 T x) (takeW (put1 T x).h (put1 T x).r (put1 T x).rest 1#64))).setIfInBounds 23 (.int .i64 0) = pc (writeS t (b.take (i + m))) := by
        rw [hw, hfull]
        exact pc_setUsed hprh 0
      refine Ct.o ?_
      refine Zgb ?_
      first|refine Zhg (Zav rfl) ?_|refine Zhg (Zar rfl) ?_
      first|refine Zhg (Zav rfl) ?_|refine Zhg (Zar rfl) ?_
      refine Zhg (Zba rfl) ?_
      first|refine Zhg (Zl8 rfl) ?_|refine Zhg (Zce rfl) ?_
      refine Zhq (n := 16) rfl qH qZ (pc_rest hpr) ?_
      refine Zh8 rfl (by kernel_rfl) (take_c _ hpr _ hpr 1#64) rfl qT ?_
      rintro _ _ ⟨rfl, rfl⟩
      refine Zg2 qA ?_
      refine Zg3 ?_
      refine Ct.o ?_
      refine Zgb ?_
      first|refine Zhg (Zav rfl) ?_|refine Zhg (Zar rfl) ?_
      refine Zhg (Zba rfl) ?_
      first|refine Zhg (Zl8 rfl) ?_|refine Zhg (Zce rfl) ?_
      refine Zht rfl rfl qR qZ (hs2) ?_
      refine Zg3 ?_
      refine Ct.o ?_
      exact Zgl (i + m, _, _, _) (by dsimp only; omega) ⟨rfl, by dsimp only; omega, by dsimp only; omega, hv2⟩ qI ⟨rfl, trivial⟩
    · have hw2 : writeS t (b.take (i + m)) = put1 T x := by rw [hw, full, if_neg hB2]
      rw [← hw2]
      refine Ct.o ?_
      exact Zgl (i + m, _, _, _) (by dsimp only; omega) ⟨rfl, by dsimp only; omega, by dsimp only; omega, hv2⟩ qI ⟨rfl, trivial⟩
  · have hie : i = b.length := by omega
    have hw : T = writeS t b := by rw [← hT, List.take_of_length_le (by omega)]
    refine Ct.o ?_
    refine Zgb ?_
    first|refine Zhg (Zaw rfl) ?_|refine Zhg (Zar rfl) ?_
    first|refine Zhg (Zcr rfl) ?_|refine Zhg (Zct) ?_|refine Zhg (Zcu rfl) ?_
    first|refine Zhg (Zaz rfl) ?_|refine Zhg (Zas rfl) ?_
    first|refine Zhg (Zms rfl) ?_|refine Zhg (Zas rfl) ?_
    refine Zg3 ?_
    refine Ct.o ?_
    refine rx2 (Zg9 rfl (Zg8 rfl (Zg7))) ?_
    rw [hw]
    exact ⟨_, ⟨rfl, rfl⟩, by exact Imp.arr (by repeat (first|exact Arr.nil|exact Arr.stop|refine Arr.cons (by repeat constructor) ?_|refine Arr.skip ?_))⟩
end Go.Sl

/- tag: Sum, walked. -/
set_option maxHeartbeats 4000000
set_option maxRecDepth 10000
set_option linter.unusedVariables false
set_option linter.unusedSimpArgs false
namespace Go.Sl
open Go Go.Proofs
attribute [local irreducible] cl pt own old pur ex all den denOps denS xOps xC cX CX xthen xblk xcut xloop xgo xng retX resX Calls PV Rd Con
attribute [local irreducible] pc writeS takeW full put1 setU setH
theorem sum_nil_c : Con Tryz.prog 58 [.pointer none] [] (fun v M => v = .agg ((List.replicate 16 0#8).map u8b).toArray ∧ M = []) := by
  refine fn_x Tryz.func58 rfl rfl rfl Tryz.mixed (by kernel_rfl) ?_
  intro w0
  refine Ct.o ?_
  refine Zgb ?_
  refine Zhz (cs := ((List.replicate 16 0#8).map u8b).toArray) rfl ?_; intro b2
  refine Zg3 ?_
  refine Ct.o ?_
  refine Zgb ?_
  first|refine Zhg (Zav rfl) ?_|refine Zhg (Zar rfl) ?_
  refine Zhg (Zca rfl rfl) ?_
  refine Zg3 ?_
  refine Ct.o ?_
  refine Zge rfl ?_
  refine Ct.o ?_
  refine Zgb ?_
  refine Zhg (Zdn (cs := #[u8b 0#8, u8b 0#8, u8b 0#8, u8b 0#8, u8b 0#8, u8b 0#8, u8b 0#8, u8b 0#8, u8b 0#8, u8b 0#8, u8b 0#8, u8b 0#8, u8b 0#8, u8b 0#8, u8b 0#8, u8b 0#8]) (by kernel_rfl)) ?_
  first|refine Zhy rfl rfl qR qZ (by first|rfl|exact oneM_u8 _|exact oneL_u8 _|exact pc_one _|(simp [oneC]; done)) qZ ?_|refine Zhx rfl rfl qR qZ (by first|rfl|exact oneM_u8 _|exact oneL_u8 _|exact pc_one _|(simp [oneC]; done)) qZ rfl ?_
  refine Zg3 ?_
  refine Ct.o ?_
  refine rx1 (Zhe rfl qH qZ (Zg7)) ?_
  exact ⟨_, ⟨rfl, rfl⟩, by exact Imp.arr (by repeat (first|exact Arr.nil|exact Arr.stop|refine Arr.cons (by repeat constructor) ?_|refine Arr.skip ?_))⟩
theorem sum_c {p : Nat} (t : PolyS) (ht : PolyOk t) : Con Tryz.prog 58 [.pointer (some ⟨p, 0, none⟩)] [cl p (pc t) 109] (fun v M => v = .agg ((sumS t).map u8b).toArray ∧ M = [cl p (pc t) 109]) := by
  have hr := ht.rest
  have hu := ht.used
  have hsz := pc_size hr
  refine fn_x Tryz.func58 rfl rfl rfl Tryz.mixed (by kernel_rfl) ?_
  intro w0
  refine Ct.o ?_
  refine Zgb ?_
  refine Zhz (cs := ((List.replicate 16 0#8).map u8b).toArray) rfl ?_; intro b2
  refine Zg3 ?_
  refine Ct.o ?_
  refine Zgb ?_
  first|refine Zhg (Zav rfl) ?_|refine Zhg (Zar rfl) ?_
  refine Zhg (Zca rfl rfl) ?_
  refine Zg3 ?_
  refine Ct.o ?_
  refine Zgf rfl ?_
  refine Ct.o ?_
  refine Zgb ?_
  first|refine Zhg (Zav rfl) ?_|refine Zhg (Zar rfl) ?_
  refine Zhg (Zba rfl) ?_
  first|refine Zhr rfl qH qZ ?_|refine Zhq rfl qH qZ rfl ?_
  refine Zhz (cs := #[u64b 0#64, u64b 0#64, u64b 0#64, u64b 0#64, u64b 0#64, u64b 0#64, u64b 0#64, u8b 0#8, u8b 0#8, u8b 0#8, u8b 0#8, u8b 0#8, u8b 0#8, u8b 0#8, u8b 0#8, u8b 0#8, u8b 0#8, u8b 0#8, u8b 0#8, u8b 0#8, u8b 0#8, u8b 0#8, u8b 0#8, .int .i64 0]) rfl ?_; intro b3
  first|refine Zhy rfl rfl qR qZ (by first|rfl|exact oneM_u8 _|exact oneL_u8 _|exact pc_one _|(simp [oneC]; done)) qZ ?_|refine Zhx rfl rfl qR qZ (by first|rfl|exact oneM_u8 _|exact oneL_u8 _|exact pc_one _|(simp [oneC]; done)) qZ rfl ?_
  refine Zg3 ?_
  refine Ct.o ?_
  refine Zgb ?_
  first|refine Zhg (Zl8 rfl) ?_|refine Zhg (Zce rfl) ?_
  refine Zhp rfl qH (pc_used hr) ?_
  first|refine Zhg (Zmh (b := 0) rfl rfl) ?_|refine Zhg (Zbp rfl rfl) ?_
  refine Zg3 ?_
  refine Ct.o ?_
  refine Zgn [(4, 4), (22, 32)] (by kernel_rfl) (fun _ : Unit => True) (fun _ => [cl b3 (pc (finS t)) 109, cl b2 ((List.replicate 16 0#8).map u8b).toArray 65, cl p (pc t) 109]) (fun _ => []) ?_ ?_
  · refine Zgg rfl (fun hB => ?_) (fun hB => ?_)
    · refine Ct.o ?_
      refine Zgb ?_
      refine Zhz (cs := ((List.replicate 16 0#8).map u8b).toArray) rfl ?_; intro b4
      refine Zg3 ?_
      refine Ct.o ?_
      refine Zij (_) [] (.q 0 (.q 1 (.q 2 (.r 3 (.q 4 (.e 5 false .nil)))))) (by kernel_rfl) (by kernel_rfl) (Imp.refl _) ?_
      refine Zim rfl (Zmy (h := 16) rfl rfl) ?_
      first|refine Zim rfl (Zl8 rfl) ?_|refine Zim rfl (Zce rfl) ?_
      first|refine Zim rfl (Zl8 rfl) ?_|refine Zim rfl (Zce rfl) ?_
      refine Ziv rfl rfl qH (pc_used hr) ?_
      refine Zim rfl (Zmy (h := t.used) rfl rfl (by omega) (by omega)) ?_
      refine Ziq rfl ?_
      refine Zib rfl rfl (Rd.cl (xs := (t.rest.take t.used).map u8b) qH (by simp; omega) (by rw [hsz]; omega) (pc_restTake hr (by omega))) qR qZ (by first|rfl|exact oneM_u8 _|exact oneL_u8 _|exact pc_one _|(simp [oneC]; done)) ((by rw [List.take_of_length_le (by simp; omega)]; exact copy_last hr hu : _ = ((t.rest.take t.used ++ List.replicate (16 - t.used) 0#8).map u8b).toArray)) ?_
      refine Zg3 ⟨(fun hh => Bool.noConfusion hh), ?_⟩
      refine Zik ?_
      refine Ct.o ?_
      refine Zgb ?_
      first|refine Zhg (Zl8 rfl) ?_|refine Zhg (Zce rfl) ?_
      refine Zhp rfl qH (pc_used hr) ?_
      first|refine Zhg (Zl5 rfl rfl) ?_|refine Zhg (Zl3 rfl rfl) ?_
      refine Zhs rfl (v := u8b 1#8) rfl rfl qR qZ (setL (f := u8b) (l := t.rest.take t.used ++ List.replicate (16 - t.used) 0#8)) ?_
      refine Zg3 ?_
      refine Ct.o ?_
      refine Zgb ?_
      first|refine Zhr rfl qH qZ ?_|refine Zhq rfl qH qZ rfl ?_
      refine Zh8 rfl (by kernel_rfl) (take_c t hr (lastB t) (lastB_len hr (by omega)) 0#64) rfl qT ?_
      rintro _ _ ⟨rfl, rfl⟩
      refine Zg2 qA ?_
      refine Zg3 ?_
      refine Ct.o ?_
      have e : finS t = setH t (takeW t.h t.r (lastB t) 0#64) := by rw [finS, if_pos hB]
      exact Zgk () trivial (by rw [e]; exact Imp.arr (by repeat (first|exact Arr.nil|exact Arr.stop|refine Arr.cons (by repeat constructor) ?_|refine Arr.skip ?_))) trivial
    · refine Ct.o ?_
      have e : finS t = t := by rw [finS, if_neg hB]
      exact Zgk () trivial (by rw [e]; exact Imp.arr (by repeat (first|exact Arr.nil|exact Arr.stop|refine Arr.cons (by repeat constructor) ?_|refine Arr.skip ?_))) trivial
  rintro _ u _
  have hszf : (pc (finS t)).size = 24 := pc_size (by rw [finS_rest]; exact hr)
  refine Ct.o ?_
  refine Zgb ?_
  first|refine Zhg (Zl8 rfl) ?_|refine Zhg (Zce rfl) ?_
  refine Zhq (n := 3) rfl qH qZ (pc_h _) ?_
  refine Zhz (cs := #[u64b 0#64, u64b 0#64, u64b 0#64]) rfl ?_; intro b5
  first|refine Zhy rfl rfl qR qZ (by first|rfl|exact oneM_u8 _|exact oneL_u8 _|exact pc_one _|(simp [oneC]; done)) qZ ?_|refine Zhx rfl rfl qR qZ (by first|rfl|exact oneM_u8 _|exact oneL_u8 _|exact pc_one _|(simp [oneC]; done)) qZ rfl ?_
  refine Zg3 ?_
  refine Ct.o ?_
  refine Zgb ?_
  first|refine Zhg (Zl5 (n := 0) rfl rfl) ?_|refine Zhg (Zl3 (n := 0) rfl rfl) ?_
  refine Zhp rfl qH rfl ?_
  refine Zhg (Zh9 rfl (ext_sub64 _ 18446744073709551611#64 0#64 (by decide)) rfl) ?_
  first|refine Zhg (Zmm rfl) ?_|refine Zhg (Zar rfl) ?_
  refine Zhg (Zco rfl rfl) ?_
  refine Zhg (Zco rfl rfl) ?_
  first|refine Zhg (Zaz rfl) ?_|refine Zhg (Zas rfl) ?_
  first|refine Zhg (Zaz rfl) ?_|refine Zhg (Zas rfl) ?_
  refine Zg3 ?_
  refine Ct.o ?_
  refine Zgb ?_
  first|refine Zhg (Zl5 (n := 1) rfl rfl) ?_|refine Zhg (Zl3 (n := 1) rfl rfl) ?_
  refine Zhp rfl qH rfl ?_
  first|refine Zhg (Zat rfl) ?_|refine Zhg (Zar rfl) ?_
  refine Zhg (Zh9 rfl (ext_sub64 _ 18446744073709551615#64 _ (borrow_le _ _ _)) rfl) ?_
  first|refine Zhg (Zmm rfl) ?_|refine Zhg (Zar rfl) ?_
  refine Zhg (Zco rfl rfl) ?_
  refine Zhg (Zco rfl rfl) ?_
  first|refine Zhg (Zaz rfl) ?_|refine Zhg (Zas rfl) ?_
  first|refine Zhg (Zaz rfl) ?_|refine Zhg (Zas rfl) ?_
  refine Zg3 ?_
  refine Ct.o ?_
  refine Zgb ?_
  first|refine Zhg (Zl5 (n := 2) rfl rfl) ?_|refine Zhg (Zl3 (n := 2) rfl rfl) ?_
  refine Zhp rfl qH rfl ?_
  first|refine Zhg (Zat rfl) ?_|refine Zhg (Zar rfl) ?_
  refine Zhg (Zh9 rfl (ext_sub64 _ 3#64 _ (borrow_le _ _ _)) rfl) ?_
  first|refine Zhg (Zmm rfl) ?_|refine Zhg (Zar rfl) ?_
  refine Zhg (Zco rfl rfl) ?_
  refine Zhg (Zco rfl rfl) ?_
  first|refine Zhg (Zaz rfl) ?_|refine Zhg (Zas rfl) ?_
  refine Zg3 ?_
  refine Ct.o ?_
  refine Zgb ?_
  first|refine Zhg (Zat rfl) ?_|refine Zhg (Zar rfl) ?_
  refine Zhg (Zlm rfl) ?_
  first|refine Zhg (Zaz rfl) ?_|refine Zhg (Zas rfl) ?_
  refine Zg3 ?_
  refine Ct.o ?_
  refine Zgb ?_
  first|refine Zhg (Zl5 (n := 0) rfl rfl) ?_|refine Zhg (Zl3 (n := 0) rfl rfl) ?_
  refine Zhp rfl qH rfl ?_
  first|refine Zhg (Zat rfl) ?_|refine Zhg (Zar rfl) ?_
  refine Zhg (Zlf rfl rfl) ?_
  first|refine Zhg (Zat rfl) ?_|refine Zhg (Zar rfl) ?_
  first|refine Zhg (Zat rfl) ?_|refine Zhg (Zar rfl) ?_
  refine Zhg (Zli rfl rfl) ?_
  refine Zhg (Zlg rfl rfl) ?_
  first|refine Zhg (Zl5 (n := 0) rfl rfl) ?_|refine Zhg (Zl3 (n := 0) rfl rfl) ?_
  refine Zht rfl rfl qR qZ rfl ?_
  refine Zg3 ?_
  refine Ct.o ?_
  refine Zgb ?_
  first|refine Zhg (Zl5 (n := 1) rfl rfl) ?_|refine Zhg (Zl3 (n := 1) rfl rfl) ?_
  refine Zhp rfl qH rfl ?_
  first|refine Zhg (Zat rfl) ?_|refine Zhg (Zar rfl) ?_
  refine Zhg (Zlf rfl rfl) ?_
  first|refine Zhg (Zat rfl) ?_|refine Zhg (Zar rfl) ?_
  first|refine Zhg (Zat rfl) ?_|refine Zhg (Zar rfl) ?_
  refine Zhg (Zli rfl rfl) ?_
  refine Zhg (Zlg rfl rfl) ?_
  first|refine Zhg (Zl5 (n := 1) rfl rfl) ?_|refine Zhg (Zl3 (n := 1) rfl rfl) ?_
  refine Zht rfl rfl qR qZ rfl ?_
  refine Zg3 ?_
  refine Ct.o ?_
  refine Zgb ?_
  first|refine Zhg (Zaz rfl) ?_|refine Zhg (Zas rfl) ?_
  refine Zg3 ?_
  refine Ct.o ?_
  refine Zgb ?_
  first|refine Zhg (Zl5 (n := 0) rfl rfl) ?_|refine Zhg (Zl3 (n := 0) rfl rfl) ?_
  refine Zhp rfl qH rfl ?_
  first|refine Zhg (Zl8 rfl) ?_|refine Zhg (Zce rfl) ?_
  first|refine Zhg (Zl5 (n := 0) rfl rfl) ?_|refine Zhg (Zl3 (n := 0) rfl rfl) ?_
  refine Zhp rfl qH (pc_s0 _) ?_
  refine Zhg (Zh9 rfl (ext_add64 _ _ 0#64 (by decide)) rfl) ?_
  first|refine Zhg (Zmm rfl) ?_|refine Zhg (Zar rfl) ?_
  refine Zhg (Zco rfl rfl) ?_
  refine Zhg (Zco rfl rfl) ?_
  first|refine Zhg (Zl5 (n := 0) rfl rfl) ?_|refine Zhg (Zl3 (n := 0) rfl rfl) ?_
  refine Zht rfl rfl qR qZ rfl ?_
  first|refine Zhg (Zaz rfl) ?_|refine Zhg (Zas rfl) ?_
  refine Zg3 ?_
  refine Ct.o ?_
  refine Zgb ?_
  first|refine Zhg (Zl5 (n := 1) rfl rfl) ?_|refine Zhg (Zl3 (n := 1) rfl rfl) ?_
  refine Zhp rfl qH rfl ?_
  first|refine Zhg (Zl8 rfl) ?_|refine Zhg (Zce rfl) ?_
  first|refine Zhg (Zl5 (n := 1) rfl rfl) ?_|refine Zhg (Zl3 (n := 1) rfl rfl) ?_
  refine Zhp rfl qH (pc_s1 _) ?_
  first|refine Zhg (Zat rfl) ?_|refine Zhg (Zar rfl) ?_
  refine Zhg (Zh9 rfl (ext_add64 _ _ _ (carry_le _ _ _ (by decide))) rfl) ?_
  first|refine Zhg (Zmm rfl) ?_|refine Zhg (Zar rfl) ?_
  refine Zhg (Zco rfl rfl) ?_
  refine Zhg (Zco rfl rfl) ?_
  first|refine Zhg (Zl5 (n := 1) rfl rfl) ?_|refine Zhg (Zl3 (n := 1) rfl rfl) ?_
  refine Zht rfl rfl qR qZ rfl ?_
  refine Zg3 ?_
  refine Ct.o ?_
  refine Zgb ?_
  refine Zhz (cs := ((List.replicate 16 0#8).map u8b).toArray) rfl ?_; intro b11
  refine Zg3 ?_
  refine Ct.o ?_
  refine Zgb ?_
  first|refine Zhg (Zat rfl) ?_|refine Zhg (Zar rfl) ?_
  refine Zg3 ?_
  refine Ct.o ?_
  refine Zgo [(12, 12), (96, 110)] (by kernel_rfl) (fun i : Nat => i ≤ 16)
    (fun i => [cl b11 ((upto (outB (outW (finS t).h (finS t).s)) i).map u8b).toArray 65, cl b5 (hA ((outW (finS t).h (finS t).s).1, (outW (finS t).h (finS t).s).2, (finS t).h.2.2)) 107, cl b2 ((List.replicate 16 0#8).map u8b).toArray 65, cl p (pc t) 109])
    (fun i => [(96, .int .i64 (i : Int))]) (fun i => 16 - i) 0 (by omega) (by rw [upto_zero]; exact Imp.arr (by repeat (first|exact Arr.nil|exact Arr.stop|refine Arr.cons (by repeat constructor) ?_|refine Arr.skip ?_))) ⟨rfl, trivial⟩ ?_
  intro i u hi
  try dsimp only at hi
  try dsimp only
  generalize hO : outW (finS t).h (finS t).s = O
  have hul : (upto (outB O) i).length = 16 := by simp [upto]
  refine Ct.o ?_
  refine Zgb ?_
  first|refine Zhg (Zmf (b := 16) rfl rfl) ?_|refine Zhg (Zbn rfl rfl) ?_
  refine Zg3 ?_
  refine Ct.o ?_
  refine Zgg rfl (fun hB => ?_) (fun hB => ?_)
  · have hld : (hA (O.1, O.2, (finS t).h.2.2))[i / 8]? = some (u64b (if i / 8 = 0 then O.1 else O.2)) := by
      have : i / 8 = 0 ∨ i / 8 = 1 := by omega
      rcases this with h|h <;> rw [h] <;> rfl
    refine Ct.o ?_
    refine Zgb ?_
    first|refine Zhg (Zat rfl) ?_|refine Zhg (Zar rfl) ?_
    first|refine Zhg (Zaz rfl) ?_|refine Zhg (Zas rfl) ?_
    refine Zg3 ?_
    refine Ct.o ?_
    refine Zgb ?_
    first|refine Zhg (Zat rfl) ?_|refine Zhg (Zar rfl) ?_
    first|refine Zhg (Zat rfl) ?_|refine Zhg (Zar rfl) ?_
    first|refine Zhg (Zmd (b := 8) rfl rfl) ?_|refine Zhg (Zbj rfl rfl) ?_
    first|refine Zhg (Zl5 rfl rfl) ?_|refine Zhg (Zl3 rfl rfl) ?_
    refine Zhp rfl qH (hld) ?_
    first|refine Zhg (Zat rfl) ?_|refine Zhg (Zar rfl) ?_
    first|refine Zhg (Zme (b := 8) rfl rfl) ?_|refine Zhg (Zbl rfl rfl) ?_
    first|refine Zhg (Zmc (a := 8) rfl rfl) ?_|refine Zhg (Zbi rfl rfl) ?_
    refine Zhg (Zlk rfl rfl) ?_
    refine Zhg (Zlx rfl) ?_
    first|refine Zhg (Zl5 rfl rfl) ?_|refine Zhg (Zl3 rfl rfl) ?_
    refine Zht rfl rfl qR qZ (setL (f := u8b) (l := upto (outB O) i)) ?_
    refine Zg3 ?_
    refine Ct.o ?_
    refine Zgb ?_
    first|refine Zhg (Zma (b := 1) rfl rfl) ?_|refine Zhg (Zbg rfl rfl) ?_
    first|refine Zhg (Zat rfl) ?_|refine Zhg (Zar rfl) ?_
    refine Zg3 ?_
    refine Ct.o ?_
    refine Zgl (i + 1) qO qO ?_ ⟨rfl, trivial⟩
    try dsimp only
    rw [← upto_set]
    exact Imp.arr (by repeat (first|exact Arr.nil|exact Arr.stop|refine Arr.cons (by repeat constructor) ?_|refine Arr.skip ?_))
  · have hi16 : i = 16 := by omega
    subst hi16
    rw [upto_end]
    refine Ct.o ?_
    refine Zgb ?_
    first|refine Zhr rfl qH qZ ?_|refine Zhq rfl qH qZ rfl ?_
    first|refine Zhy rfl rfl qR qZ (by first|rfl|exact oneM_u8 _|exact oneL_u8 _|exact pc_one _|(simp [oneC]; done)) qZ ?_|refine Zhx rfl rfl qR qZ (by first|rfl|exact oneM_u8 _|exact oneL_u8 _|exact pc_one _|(simp [oneC]; done)) qZ rfl ?_
    refine Zg3 ?_
    refine Ct.o ?_
    refine rx1 (Zhe rfl qH qZ (Zg7)) ?_
    rw [← hO]
    exact ⟨_, ⟨rfl, rfl⟩, by exact Imp.arr (by repeat (first|exact Arr.nil|exact Arr.stop|refine Arr.cons (by repeat constructor) ?_|refine Arr.skip ?_))⟩
end Go.Sl

/- seal: the tag of a cover, walked. -/
set_option maxHeartbeats 4000000
set_option maxRecDepth 10000
set_option linter.unusedVariables false
set_option linter.unusedSimpArgs false
namespace Go.Sl
open Go Go.Proofs
attribute [local irreducible] cl pt own old pur ex all den denOps denS xOps xC cX CX xthen xblk xcut xloop xgo xng retX resX Calls PV Rd Con
attribute [local irreducible] pc writeS takeW full put1 setU setH code sumS blockB ksB xorB
theorem writeB_x {p : Nat} {L : List Asrt} (t : PolyS) (ht : PolyOk t) {v : Value} {l : List Byte} (h : Bs L v l) :
    Con Tryz.prog 57 [.pointer (some ⟨p, 0, none⟩), v] (cl p (pc t) 109 :: L) (fun r M => r = .tuple #[.int .i64 l.length, .nilIface] ∧ cl p (pc (writeS t l)) 109 :: L = M) := by
  refine Con.get (fun w0 w F H => (h.imp Imp.tail).sh _ _ _ H) ?_
  rintro ⟨a, c, rfl, h1, h2⟩
  refine (write_c (L := L) t ht l a c h1 h2 h.rd).mono ?_
  rintro v M ⟨rfl, rfl⟩
  exact ⟨_, Imp.refl _, rfl, rfl⟩
/-- What has been written ahead of a part. -/
def msgB (more cover : List Byte) (i : Nat) : List Byte := if i = 0 then [] else if i = 1 then more ++ padB more else (more ++ padB more) ++ (cover ++ padB cover)
theorem msgB_succ (more cover : List Byte) (i : Nat) (h : i < 2) : msgB more cover (i + 1) = (msgB more cover i ++ (if i = 0 then more else cover)) ++ padB (if i = 0 then more else cover) := by
  match i, h with
  | 0, _ => simp [msgB]
  | 1, _ => simp [msgB]
theorem key_cp (b : List Byte) (h : b.length = 64) : wr (((List.replicate 32 0#8).map u8b).toArray) 0 ((b.map u8b).take (min 64 32 * 1)) = ((b.take 32).map u8b).toArray := by
  rw [show min 64 32 * 1 = 32 from rfl, ← List.map_take]
  have := wr_all (((b.take 32).map u8b).toArray) (((List.replicate 32 0#8).map u8b).toArray) (by simp [h])
  exact this
theorem len_conv (n : Nat) : BitVec.ofInt 64 ((n : Nat) : Int) = BitVec.ofNat 64 n := BitVec.ofInt_natCast ..
theorem vouch_x {L : List Asrt} (key nonce : List Byte) (hk : key.length = 32) (hn : nonce.length = 12) {vm vc : Value} {more cover : List Byte} (hm : Bs L vm more) (hc : Bs L vc cover) (hml : more.length ≤ 140737488351232) (hcl : cover.length ≤ 140737488351232) :
    Con Tryz.prog 41 [.agg (key.map u8b).toArray, .agg (nonce.map u8b).toArray, vm, vc] L (fun r M => r = .agg ((vouchB key nonce more cover).map u8b).toArray ∧ L = M) := by
  refine Con.get (fun w0 w F H => hm.sh _ _ _ H) ?_
  rintro ⟨ma, mc, rfl, hmc, hmcm⟩
  refine Con.get (fun w0 w F H => hc.sh _ _ _ H) ?_
  rintro ⟨ca, cc, rfl, hcc, hccm⟩
  have hbl := blockB_len key 0#32 nonce
  have hol := oneKey_len key nonce
  have hone : (blockB key 0#32 nonce).take 32 = oneKey key nonce := rfl
  refine fn_x Tryz.func41 rfl rfl rfl Tryz.mixed (by kernel_rfl) ?_
  intro w0
  refine Ct.o ?_
  refine Zgb ?_
  refine Zh5 rfl ?_; intro b4
  refine Zh5 rfl ?_; intro b5
  refine Zhz (cs := ((List.replicate 16 0#8).map u8b).toArray) rfl ?_; intro b8
  refine Zg3 ?_
  refine Ct.o ?_
  refine Zgb ?_
  refine Zhz (cs := ((List.replicate 32 0#8).map u8b).toArray) rfl ?_; intro b9
  refine Zg3 ?_
  refine Ct.o ?_
  refine Zgb ?_
  first|refine Zhr rfl qH qZ ?_|refine Zhq rfl qH qZ rfl ?_
  first|refine Zhr rfl qH qZ ?_|refine Zhq rfl qH qZ rfl ?_
  refine Zh8 rfl (by kernel_rfl) (block_x key 0#32 nonce hk hn) rfl qT ?_
  rintro _ _ ⟨rfl, rfl⟩
  refine Zg2 qA ?_
  refine Zhz (cs := ((List.replicate 64 0#8).map u8b).toArray) rfl ?_; intro b10
  first|refine Zhy rfl rfl qR qZ (by first|rfl|exact oneM_u8 _|exact oneL_u8 _|exact pc_one _|(simp [oneC]; done)) qZ ?_|refine Zhx rfl rfl qR qZ (by first|rfl|exact oneM_u8 _|exact oneL_u8 _|exact pc_one _|(simp [oneC]; done)) qZ rfl ?_
  refine Zg3 ?_
  refine Ct.o ?_
  refine Zij ([]) [] (.q 0 (.q 1 (.e 2 false .nil))) (by kernel_rfl) (by kernel_rfl) (Imp.arr Arr.stop) ?_
  refine Zim rfl (Zmy (h := 32) rfl rfl) ?_
  refine Zim rfl (Zmy (h := 64) rfl rfl) ?_
  refine Ziq rfl ?_
  refine Zib rfl rfl (Rd.cl (o := 0) (xs := (blockB key 0#32 nonce).map u8b) qH (by simp [hbl]) (by simp [hbl]) (by simp; exact List.take_of_length_le (by simp [hbl]))) qR qZ (by first|rfl|exact oneM_u8 _|exact oneL_u8 _|exact pc_one _|(simp [oneC]; done)) (key_cp _ hbl) ?_
  refine Zg3 ⟨(fun hh => Bool.noConfusion hh), ?_⟩
  refine Zik ?_
  refine Ct.o ?_
  rw [hone]
  generalize hone2 : oneKey key nonce = one at hol
  refine Ct.o ?_
  refine Zgb ?_
  first|refine Zhr rfl qH qZ ?_|refine Zhq rfl qH qZ rfl ?_
  refine Zh8 rfl (by kernel_rfl) (new_c one hol) rfl qT ?_
  rintro _ _ ⟨p, rfl, rfl⟩
  refine Zg2 qA ?_
  first|refine Zhg (Za1 rfl) ?_|refine Zhg (Zas rfl) ?_
  refine Zg3 ?_
  refine Ct.o ?_
  refine Zgb ?_
  refine Zhz (cs := ((List.replicate 16 0#8).map u8b).toArray) rfl ?_; intro b12
  refine Zg3 ?_
  refine Ct.o ?_
  refine Zgb ?_
  first|refine Zhg (Zaw rfl) ?_|refine Zhg (Zar rfl) ?_
  first|refine Zhg (Zaw rfl) ?_|refine Zhg (Zar rfl) ?_
  refine Zh7 (cs := #[.slice ma more.length mc, .slice ca cover.length cc]) (by omega) (by omega) qF ?_; intro b25
  first|refine Zhg (Zcr rfl) ?_|refine Zhg (Zct) ?_|refine Zhg (Zcu rfl) ?_
  first|refine Zhg (Zat rfl) ?_|refine Zhg (Zar rfl) ?_
  refine Zg3 ?_
  refine Ct.o ?_
  refine Zgo [(14, 14), (27, 42)] (by kernel_rfl) (fun i : Nat => i ≤ 2) (fun i => cl p (pc (writeS (newS one) (msgB more cover i))) 109 :: cl b25 #[.slice ma more.length mc, .slice ca cover.length cc] 28 :: cl b12 ((List.replicate 16 0#8).map u8b).toArray 64 :: cl b8 ((List.replicate 16 0#8).map u8b).toArray 65 :: L)
    (fun i => [(27, nvv i)]) (fun i => 2 - i) 0 (by omega) (by show Imp _ (cl p (pc (writeS (newS one) [])) _ :: _); rw [writeS_nil]; exact qI) ⟨rfl, trivial⟩ ?_
  intro i u hi
  have hok : PolyOk (writeS (newS one) (msgB more cover i)) := writeS_ok (newS_ok one)
  refine Ct.o ?_
  refine Zgb ?_
  first|refine Zhg (Zmf rfl rfl) ?_|refine Zhg (Zbn rfl rfl) ?_
  refine Zg3 ?_
  refine Ct.o ?_
  refine Zgg rfl (fun hB => ?_) (fun hB => ?_)
  · obtain ⟨x, hx⟩ : ∃ x, x = if i = 0 then more else cover := ⟨_, rfl⟩
    obtain ⟨xa, xc, hxv, hxb, hxl⟩ : ∃ xa xc, (#[.slice ma more.length mc, .slice ca cover.length cc] : Array Value)[i]? = some (.slice xa x.length xc) ∧ Bs L (.slice xa x.length xc) x ∧ x.length ≤ 140737488351232 := by
      match i, hB with
      | 0, _ => exact ⟨ma, mc, by rw [hx]; rfl, by rw [hx]; exact hm, by rw [hx]; exact hml⟩
      | 1, _ => exact ⟨ca, cc, by rw [hx]; rfl, by rw [hx]; exact hc, by rw [hx]; exact hcl⟩
    have hk16 : (16 - x.length % 16) % 16 ≤ 16 := by omega
    refine Ct.o ?_
    refine Zgb ?_
    first|refine Zhg (Zl4 rfl rfl) ?_|refine Zhg (Zl1 rfl rfl) ?_
    refine Zhp rfl qH (hxv) ?_
    first|refine Zhg (Za2 rfl) ?_|refine Zhg (Zas rfl) ?_
    refine Zg3 ?_
    refine Ct.o ?_
    refine Zgb ?_
    first|refine Zhg (Zav rfl) ?_|refine Zhg (Zar rfl) ?_
    first|refine Zhg (Zaw rfl) ?_|refine Zhg (Zar rfl) ?_
    refine Zh8 rfl (by kernel_rfl) (writeB_x (L := L) _ hok hxb) rfl qT ?_
    rintro _ _ ⟨rfl, rfl⟩
    refine Zg2 qA ?_
    refine Zg3 ?_
    refine Ct.o ?_
    rw [← writeS_append]
    have hok2 : PolyOk (writeS (newS one) (msgB more cover i ++ x)) := writeS_ok (newS_ok one)
    have hz := bs_piece (M := [cl b12 ((List.replicate 16 0#8).map u8b).toArray 64]) (o := 0) (n := (16 - x.length % 16) % 16) (c := 16) .here (by simp; omega) (by omega) (by omega)
    have hpd : ((List.replicate 16 0#8).drop 0).take ((16 - x.length % 16) % 16) = padB x := by
      unfold padB; rw [List.drop_zero, List.take_replicate]; congr 1; omega
    rw [hpd] at hz
    refine Ct.o ?_
    refine Zgb ?_
    first|refine Zhg (Zav rfl) ?_|refine Zhg (Zar rfl) ?_
    first|refine Zhg (Zaw rfl) ?_|refine Zhg (Zar rfl) ?_
    first|refine Zhg (Zcr rfl) ?_|refine Zhg (Zct) ?_|refine Zhg (Zcu rfl) ?_
    first|refine Zhg (Zme (b := 16) rfl rfl) ?_|refine Zhg (Zbl rfl rfl) ?_
    first|refine Zhg (Zmb (a := 16) rfl rfl) ?_|refine Zhg (Zbh rfl rfl) ?_
    first|refine Zhg (Zme (b := 16) rfl rfl) ?_|refine Zhg (Zbl rfl rfl) ?_
    refine Zhg (Zmy (h := (16 - x.length % 16) % 16) rfl rfl (by omega) (by omega)) ?_
    refine Zh8 rfl (by kernel_rfl) (writeB_x (L := [cl b12 ((List.replicate 16 0#8).map u8b).toArray 64]) _ hok2 hz) rfl qT ?_
    rintro _ _ ⟨rfl, rfl⟩
    refine Zg2 qA ?_
    refine Zg3 ?_
    refine Ct.o ?_
    rw [← writeS_append, hx, ← msgB_succ more cover i hB]
    refine Ct.o ?_
    refine Zgb ?_
    first|refine Zhg (Zma (b := 1) rfl rfl) ?_|refine Zhg (Zbg rfl rfl) ?_
    first|refine Zhg (Zat rfl) ?_|refine Zhg (Zar rfl) ?_
    refine Zg3 ?_
    refine Ct.o ?_
    exact Zgl (i + 1) qO (by omega) qI ⟨rfl, trivial⟩
  · have hie : i = 2 := by omega
    subst hie
    refine Ct.o ?_
    refine Zgb ?_
    first|refine Zhg (Zav rfl) ?_|refine Zhg (Zar rfl) ?_
    first|refine Zhg (Zaw rfl) ?_|refine Zhg (Zar rfl) ?_
    first|refine Zhg (Zcr rfl) ?_|refine Zhg (Zct) ?_|refine Zhg (Zcu rfl) ?_
    refine Zhg (Zlv rfl) ?_
    refine Zh8 rfl (by kernel_rfl) (put64_x (L := []) (BitVec.ofNat 64 more.length) Bs.nil (by simp)) rfl qT ?_
    rintro _ _ ⟨pa, pcc, rfl, rfl⟩
    refine Zg2 qA ?_
    first|refine Zhg (Zaw rfl) ?_|refine Zhg (Zar rfl) ?_
    first|refine Zhg (Zcr rfl) ?_|refine Zhg (Zct) ?_|refine Zhg (Zcu rfl) ?_
    refine Zhg (Zlv rfl) ?_
    refine Zh8 rfl (by kernel_rfl) (put64_x (L := [own 5 1 (.slice pa ([] ++ leB (BitVec.ofNat 64 more.length) 8).length pcc) ([] ++ leB (BitVec.ofNat 64 more.length) 8).length (([] ++ leB (BitVec.ofNat 64 more.length) 8).map u8b)]) (BitVec.ofNat 64 cover.length) (Bs.own .here) (by simp [leB_len])) rfl qT ?_
    rintro _ _ ⟨qa, qc, rfl, rfl⟩
    refine Zg2 qA ?_
    refine Zh8 rfl (by kernel_rfl) (writeB_x (L := [own 5 1 (.slice qa (([] ++ leB (BitVec.ofNat 64 more.length) 8) ++ leB (BitVec.ofNat 64 cover.length) 8).length qc) (([] ++ leB (BitVec.ofNat 64 more.length) 8) ++ leB (BitVec.ofNat 64 cover.length) 8).length ((([] ++ leB (BitVec.ofNat 64 more.length) 8) ++ leB (BitVec.ofNat 64 cover.length) 8).map u8b)]) _ hok (Bs.own .here)) rfl qT ?_
    rintro _ _ ⟨rfl, rfl⟩
    refine Zg2 qA ?_
    refine Zg3 ?_
    refine Ct.o ?_
    rw [← writeS_append]
    have hok2 : PolyOk (writeS (newS one) (msgB more cover 2 ++ (([] ++ leB (BitVec.ofNat 64 more.length) 8) ++ leB (BitVec.ofNat 64 cover.length) 8))) := writeS_ok (newS_ok one)
    have hfin : sumS (writeS (newS one) (msgB more cover 2 ++ (([] ++ leB (BitVec.ofNat 64 more.length) 8) ++ leB (BitVec.ofNat 64 cover.length) 8))) = vouchB key nonce more cover := by
      unfold vouchB code macB; rw [hone2, List.nil_append]; rfl
    have hvl := vouchB_len key nonce more cover
    have hfl := congrArg List.length hfin
    refine Ct.o ?_
    refine Zgb ?_
    first|refine Zhg (Zav rfl) ?_|refine Zhg (Zar rfl) ?_
    refine Zh8 rfl (by kernel_rfl) (sum_c _ hok2) rfl qT ?_
    rintro _ _ ⟨rfl, rfl⟩
    refine Zg2 qA ?_
    first|refine Zhy rfl rfl qR qZ (by first|rfl|exact oneM_u8 _|exact oneL_u8 _|exact pc_one _|(simp [oneC]; done)) qZ ?_|refine Zhx rfl rfl qR qZ (by first|rfl|exact oneM_u8 _|exact oneL_u8 _|exact pc_one _|(simp [oneC]; done)) qZ rfl ?_
    refine Zg3 ?_
    refine Ct.o ?_
    rw [hfin]
    refine rx1 (Zhe rfl qH qZ (Zg7)) ?_
    exact ⟨_, ⟨rfl, rfl⟩, qI⟩
end Go.Sl

/- seal: Seal, look, Open, Peek, Nonce, walked. -/
set_option maxHeartbeats 4000000
set_option maxRecDepth 10000
set_option linter.unusedVariables false
set_option linter.unusedSimpArgs false
namespace Go.Sl
open Go Go.Proofs
attribute [local irreducible] cl pt own old pur ex all den denOps denS xOps xC cX CX xthen xblk xcut xloop xgo xng retX resX Calls PV Rd Con
attribute [local irreducible] code blockB ksB xorB vouchB leB
/-- What Seal answers. -/
def sealR (key nonce more text : List Byte) : List Byte × Nat := if 1048576 < more.length ∨ 1048576 < text.length then ([], 3) else (sealB key nonce more text, 0)
theorem seal_x {L : List Asrt} (key nonce : List Byte) (hk : key.length = 32) (hn : nonce.length = 12) {vm vt : Value} {more text : List Byte} (hm : Bs L vm more) (ht : Bs L vt text) (hml : more.length ≤ 140737488351232) (htl : text.length ≤ 140737488351232) :
    Con Tryz.prog 23 [.agg (key.map u8b).toArray, .agg (nonce.map u8b).toArray, vm, vt] L (fun r M => ∃ a c, r = .tuple #[.slice a (sealR key nonce more text).1.length c, nvv (sealR key nonce more text).2] ∧ M = own 5 1 (.slice a (sealR key nonce more text).1.length c) (sealR key nonce more text).1.length ((sealR key nonce more text).1.map u8b) :: L) := by
  refine Con.get (fun w0 w F H => hm.sh _ _ _ H) ?_
  rintro ⟨ma, mc, rfl, hmc, hmcm⟩
  refine Con.get (fun w0 w F H => ht.sh _ _ _ H) ?_
  rintro ⟨ta, tc, rfl, htc, htcm⟩
  by_cases hlong : 1048576 < more.length ∨ 1048576 < text.length
  · have e : sealR key nonce more text = ([], 3) := if_pos hlong
    rw [e]
    refine fn_x Tryz.func23 rfl rfl rfl Tryz.mixed (by kernel_rfl) ?_
    intro w0
    refine Ct.o ?_
    refine Zgb ?_
    refine Zh5 rfl ?_; intro b4
    refine Zh5 rfl ?_; intro b5
    first|refine Zhg (Za2 rfl) ?_|refine Zhg (Zas rfl) ?_
    first|refine Zhg (Zaz rfl) ?_|refine Zhg (Zas rfl) ?_
    refine Zg3 ?_
    refine Ct.o ?_
    by_cases h1 : 1048576 < more.length
    · refine Ct.o ?_
      refine Zgb ?_
      first|refine Zhg (Zaw rfl) ?_|refine Zhg (Zar rfl) ?_
      first|refine Zhg (Zcr rfl) ?_|refine Zhg (Zct) ?_|refine Zhg (Zcu rfl) ?_
      first|refine Zhg (Zmh (b := 1048576) rfl rfl) ?_|refine Zhg (Zbp rfl rfl) ?_
      refine Zhm 16 rfl (decide_eq_true (h1)) ?_
      first|refine Zhg (Zau rfl) ?_|refine Zhg (Zar rfl) ?_
      first|refine Zhi rfl ?_|refine Zhj rfl ?_|(refine Zhh rfl ?_; (first|refine Zhg (Zaw rfl) ?_|refine Zhg (Zar rfl) ?_))
      first|refine Zhi rfl ?_|refine Zhj rfl ?_|(refine Zhh rfl ?_; (first|refine Zhg (Zcr rfl) ?_|refine Zhg (Zct) ?_|refine Zhg (Zcu rfl) ?_))
      first|refine Zhi rfl ?_|refine Zhj rfl ?_|(refine Zhh rfl ?_; (first|refine Zhg (Zmh (b := 1048576) rfl rfl) ?_|refine Zhg (Zbp rfl rfl) ?_))
      first|refine Zhg (Zdz rfl rfl) ?_|refine Zhg (Zd0 rfl rfl) ?_|refine Zhg (Za8 rfl rfl) ?_|refine Zhg (Za9 rfl rfl) ?_|refine Zhg (Za6 rfl rfl) ?_|refine Zhg (Za7 rfl rfl) ?_
      refine Zg3 ?_
      refine Ct.o ?_
      refine Zge rfl ?_
      refine Ct.o ?_
      refine Zgb ?_
      first|refine Zhg (Za2 rfl) ?_|refine Zhg (Zas rfl) ?_
      first|refine Zhg (Zaz rfl) ?_|refine Zhg (Zas rfl) ?_
      refine Zg3 ?_
      refine Ct.o ?_
      refine rx2 (Zhc rfl (Zg9 rfl (Zg7))) ?_
      exact ⟨_, ⟨none, 0, rfl, rfl⟩, (Imp.arr (N := L) qV).trans Imp.own_nil⟩
    · refine Ct.o ?_
      refine Zgb ?_
      first|refine Zhg (Zaw rfl) ?_|refine Zhg (Zar rfl) ?_
      first|refine Zhg (Zcr rfl) ?_|refine Zhg (Zct) ?_|refine Zhg (Zcu rfl) ?_
      first|refine Zhg (Zmh (b := 1048576) rfl rfl) ?_|refine Zhg (Zbp rfl rfl) ?_
      refine Zhn 16 rfl (decide_eq_false (h1)) ?_
      first|refine Zhg (Zau rfl) ?_|refine Zhg (Zar rfl) ?_
      first|refine Zhi rfl ?_|refine Zhj rfl ?_|(refine Zhh rfl ?_; (first|refine Zhg (Zaw rfl) ?_|refine Zhg (Zar rfl) ?_))
      first|refine Zhi rfl ?_|refine Zhj rfl ?_|(refine Zhh rfl ?_; (first|refine Zhg (Zcr rfl) ?_|refine Zhg (Zct) ?_|refine Zhg (Zcu rfl) ?_))
      first|refine Zhi rfl ?_|refine Zhj rfl ?_|(refine Zhh rfl ?_; (first|refine Zhg (Zmh (b := 1048576) rfl rfl) ?_|refine Zhg (Zbp rfl rfl) ?_))
      refine Zhm 20 rfl (decide_eq_true ((hlong.resolve_left h1))) ?_
      first|refine Zhg (Zdz rfl rfl) ?_|refine Zhg (Zd0 rfl rfl) ?_|refine Zhg (Za8 rfl rfl) ?_|refine Zhg (Za9 rfl rfl) ?_|refine Zhg (Za6 rfl rfl) ?_|refine Zhg (Za7 rfl rfl) ?_
      refine Zg3 ?_
      refine Ct.o ?_
      refine Zge rfl ?_
      refine Ct.o ?_
      refine Zgb ?_
      first|refine Zhg (Za2 rfl) ?_|refine Zhg (Zas rfl) ?_
      first|refine Zhg (Zaz rfl) ?_|refine Zhg (Zas rfl) ?_
      refine Zg3 ?_
      refine Ct.o ?_
      refine rx2 (Zhc rfl (Zg9 rfl (Zg7))) ?_
      exact ⟨_, ⟨none, 0, rfl, rfl⟩, (Imp.arr (N := L) qV).trans Imp.own_nil⟩
  · have e : sealR key nonce more text = (sealB key nonce more text, 0) := if_neg hlong
    rw [e]
    have h1 : ¬ 1048576 < more.length := fun h => hlong (.inl h)
    have h2 : ¬ 1048576 < text.length := fun h => hlong (.inr h)
    have hxl := xorB_len key nonce 64 text
    have hvl := vouchB_len key nonce more (xorB key nonce 64 text)
    refine fn_x Tryz.func23 rfl rfl rfl Tryz.mixed (by kernel_rfl) ?_
    intro w0
    refine Ct.o ?_
    refine Zgb ?_
    refine Zh5 rfl ?_; intro b4
    refine Zh5 rfl ?_; intro b5
    first|refine Zhg (Za2 rfl) ?_|refine Zhg (Zas rfl) ?_
    first|refine Zhg (Zaz rfl) ?_|refine Zhg (Zas rfl) ?_
    refine Zg3 ?_
    refine Ct.o ?_
    refine Zgb ?_
    first|refine Zhg (Zaw rfl) ?_|refine Zhg (Zar rfl) ?_
    first|refine Zhg (Zcr rfl) ?_|refine Zhg (Zct) ?_|refine Zhg (Zcu rfl) ?_
    first|refine Zhg (Zmh (b := 1048576) rfl rfl) ?_|refine Zhg (Zbp rfl rfl) ?_
    refine Zhn 16 rfl (decide_eq_false (h1)) ?_
    first|refine Zhg (Zau rfl) ?_|refine Zhg (Zar rfl) ?_
    first|refine Zhi rfl ?_|refine Zhj rfl ?_|(refine Zhh rfl ?_; (first|refine Zhg (Zaw rfl) ?_|refine Zhg (Zar rfl) ?_))
    first|refine Zhi rfl ?_|refine Zhj rfl ?_|(refine Zhh rfl ?_; (first|refine Zhg (Zcr rfl) ?_|refine Zhg (Zct) ?_|refine Zhg (Zcu rfl) ?_))
    first|refine Zhi rfl ?_|refine Zhj rfl ?_|(refine Zhh rfl ?_; (first|refine Zhg (Zmh (b := 1048576) rfl rfl) ?_|refine Zhg (Zbp rfl rfl) ?_))
    refine Zhn 20 rfl (decide_eq_false (h2)) ?_
    first|refine Zhg (Zdz rfl rfl) ?_|refine Zhg (Zd0 rfl rfl) ?_|refine Zhg (Za8 rfl rfl) ?_|refine Zhg (Za9 rfl rfl) ?_|refine Zhg (Za6 rfl rfl) ?_|refine Zhg (Za7 rfl rfl) ?_
    refine Zg3 ?_
    refine Ct.o ?_
    refine Zgf rfl ?_
    refine Ct.o ?_
    refine Zgb ?_
    first|refine Zhr rfl qH qZ ?_|refine Zhq rfl qH qZ rfl ?_
    first|refine Zhr rfl qH qZ ?_|refine Zhq rfl qH qZ rfl ?_
    first|refine Zhg (Zaw rfl) ?_|refine Zhg (Zar rfl) ?_
    refine Zh8 rfl (by kernel_rfl) (xor_x (L := L) key nonce hk hn ht (by omega)) rfl qT ?_
    rintro _ _ ⟨g, rfl, rfl⟩
    refine Zg2 qA ?_
    first|refine Zhg (Zmm rfl) ?_|refine Zhg (Zar rfl) ?_
    refine Zhg (Zco rfl rfl) ?_
    refine Zhg (Zco rfl rfl) ?_
    first|refine Zhg (Za2 rfl) ?_|refine Zhg (Zas rfl) ?_
    first|refine Zhg (Zaz rfl) ?_|refine Zhg (Zas rfl) ?_
    refine Zg3 ?_
    refine Ct.o ?_
    refine Zgb ?_
    first|refine Zhg (Zat rfl) ?_|refine Zhg (Zar rfl) ?_
    first|refine Zhg (Zmk (b := 0) rfl rfl) ?_|refine Zhg (Zbs rfl rfl) ?_
    refine Zhn 30 rfl (decide_eq_false ((fun h => h rfl))) ?_
    refine Zg3 ?_
    refine Ct.o ?_
    refine Zgf rfl ?_
    refine Ct.o ?_
    have hcv : Bs (cl g ((xorB key nonce 64 text).map u8b).toArray 5 :: L) (.slice (some ⟨g, 0, none⟩) text.length text.length) (xorB key nonce 64 text) := by
      have := Bs.cl (M := cl g ((xorB key nonce 64 text).map u8b).toArray 5 :: L) (o := 0) (c := text.length) (l := xorB key nonce 64 text) .here (by simp) (by simp; exact List.take_of_length_le (by simp)) (by omega) (by omega)
      rwa [hxl] at this
    refine Ct.o ?_
    refine Zgb ?_
    first|refine Zhr rfl qH qZ ?_|refine Zhq rfl qH qZ rfl ?_
    first|refine Zhr rfl qH qZ ?_|refine Zhq rfl qH qZ rfl ?_
    first|refine Zhg (Zaw rfl) ?_|refine Zhg (Zar rfl) ?_
    first|refine Zhg (Zaw rfl) ?_|refine Zhg (Zar rfl) ?_
    refine Zh8 rfl (by kernel_rfl) (vouch_x (L := cl g ((xorB key nonce 64 text).map u8b).toArray 5 :: L) key nonce hk hn (hm.imp Imp.tail) hcv (by omega) (by omega)) rfl qT ?_
    rintro _ _ ⟨rfl, rfl⟩
    refine Zg2 qA ?_
    refine Zhz (cs := ((List.replicate 16 0#8).map u8b).toArray) rfl ?_; intro b12
    first|refine Zhy rfl rfl qR qZ qN qZ ?_|refine Zhx rfl rfl qR qZ qN qZ rfl ?_
    refine Zg3 ?_
    refine Ct.o ?_
    refine Zgb ?_
    first|refine Zhg (Zaw rfl) ?_|refine Zhg (Zar rfl) ?_
    first|refine Zhg (Zcr rfl) ?_|refine Zhg (Zct) ?_|refine Zhg (Zcu rfl) ?_
    first|refine Zhg (Zma (b := 16) rfl rfl) ?_|refine Zhg (Zbg rfl rfl) ?_
    refine Zm3 (f := u8b) (a := 0#8) (len := 0) rfl rfl rfl qS qS qS ?_; intro b40
    first|refine Zhg (Za2 rfl) ?_|refine Zhg (Zas rfl) ?_
    refine Zg3 ?_
    refine Ct.o ?_
    refine Zgp (Imp.own_mk (n := 0) (cap := text.length + 16) (size := 1) (xs := []) (by omega) (by omega) (by simp) (by simp)) ?_
    have hcr : Rd (cl g ((xorB key nonce 64 text).map u8b).toArray 5 :: L) 1 (.slice (some ⟨g, 0, none⟩) text.length text.length) text.length ((xorB key nonce 64 text).map u8b) := by
      have := hcv.rd; rwa [hxl] at this
    have htr : Rd [cl b12 ((vouchB key nonce more (xorB key nonce 64 text)).map u8b).toArray 65] 1 (.slice (some ⟨b12, 0, none⟩) 16 16) 16 ((vouchB key nonce more (xorB key nonce 64 text)).map u8b) :=
      Rd.cl (o := 0) .here (by simp [hvl]) (by simp [hvl]) (by simp; exact List.take_of_length_le (by simp [hvl]))
    refine Ct.o ?_
    refine Zij ([]) [] (.q 0 (.q 1 (.q 3 (.e 2 false (.e 4 false (.q 5 (.q 6 .nil))))))) (by kernel_rfl) (by kernel_rfl) (Imp.arr Arr.stop) ?_
    first|refine Zim rfl (Zaw rfl) ?_|refine Zim rfl (Zar rfl) ?_
    first|refine Zim rfl (Zaw rfl) ?_|refine Zim rfl (Zar rfl) ?_
    refine Zim rfl (Zmy (h := 16) rfl rfl) ?_
    refine Ziq rfl ?_
    refine Zia rfl rfl qH (hcr.imp (Imp.arr qV)) qN (by omega) qS ?_; intro a1 c1
    refine Zg3 ⟨(fun hh => Bool.noConfusion hh), ?_⟩
    refine Ziq rfl ?_
    refine Zia rfl rfl qH (htr.imp (Imp.arr qV)) qN (by omega) qS ?_; intro a2 c2
    refine Zg3 ⟨(fun hh => Bool.noConfusion hh), ?_⟩
    first|refine Zim rfl (Za2 rfl) ?_|refine Zim rfl (Zas rfl) ?_
    first|refine Zim rfl (Zaz rfl) ?_|refine Zim rfl (Zas rfl) ?_
    refine Zik ?_
    refine Ct.o ?_
    have e1 : [] ++ (xorB key nonce 64 text).map u8b ++ (vouchB key nonce more (xorB key nonce 64 text)).map u8b = (sealB key nonce more text).map u8b := by unfold sealB; simp
    have e2 : 0 + text.length + 16 = (sealB key nonce more text).length := by rw [sealB_len]; omega
    rw [e1, e2]
    refine rx2 (Zhc rfl (Zg9 rfl (Zg7))) ?_
    exact ⟨_, ⟨a2, c2, rfl, rfl⟩, qI⟩
end Go.Sl

/- seal: look, Open, Peek, Nonce, walked. -/
set_option maxHeartbeats 4000000
set_option maxRecDepth 10000
set_option linter.unusedVariables false
set_option linter.unusedSimpArgs false
namespace Go.Sl
open Go Go.Proofs
attribute [local irreducible] cl pt own old pur ex all den denOps denS xOps xC cX CX xthen xblk xcut xloop xgo xng retX resX Calls PV Rd Con
attribute [local irreducible] code blockB ksB xorB vouchB leB
/-- What look and Peek answer: the text, the mask, the error. -/
def lookR (key nonce more box : List Byte) : List Byte × BitVec 64 × Nat :=
  if box.length < 16 then ([], 0#64, 4) else if 1048576 < more.length ∨ 1048576 < box.length - 16 then ([], 0#64, 3)
  else if rightB key nonce more box = true then (textB key nonce box, 18446744073709551615#64, 0) else (List.replicate (box.length - 16) 0#8, 0#64, 0)
theorem bs_full {M M' : List Asrt} {b E : Nat} {l : List Byte} {n : Nat} (hm : Has M (cl b (l.map u8b).toArray E) M') (hn : l.length = n) (hc : n ≤ 9223372036854775807) : Bs M (.slice (some ⟨b, 0, none⟩) n n) l := by
  have := bs_piece (o := 0) (n := n) (c := n) hm (by omega) (by omega) hc
  rwa [List.drop_zero, List.take_of_length_le (by omega)] at this
theorem look_x {L : List Asrt} (key nonce : List Byte) (hk : key.length = 32) (hn : nonce.length = 12) {vm vb : Value} {more box : List Byte} (hm : Bs L vm more) (hb : Bs L vb box) (hml : more.length ≤ 140737488351232) (hbl : box.length ≤ 140737488351232) :
    Con Tryz.prog 44 [.agg (key.map u8b).toArray, .agg (nonce.map u8b).toArray, vm, vb] L (fun r M => ∃ a c, r = .tuple #[.slice a (lookR key nonce more box).1.length c, u64b (lookR key nonce more box).2.1, nvv (lookR key nonce more box).2.2] ∧ M = own 5 1 (.slice a (lookR key nonce more box).1.length c) (lookR key nonce more box).1.length ((lookR key nonce more box).1.map u8b) :: L) := by
  refine Con.get (fun w0 w F H => hm.sh _ _ _ H) ?_
  rintro ⟨ma, mc, rfl, hmc, hmcm⟩
  refine Con.get (fun w0 w F H => hb.sh _ _ _ H) ?_
  rintro ⟨ba, bc, rfl, hbc, hbcm⟩
  by_cases h16 : box.length < 16
  · have e : lookR key nonce more box = ([], 0#64, 4) := if_pos h16
    rw [e]
    refine fn_x Tryz.func44 rfl rfl rfl Tryz.mixed (by kernel_rfl) ?_
    intro w0
    refine Ct.o ?_
    refine Zgb ?_
    refine Zh5 rfl ?_; intro b4
    refine Zh5 rfl ?_; intro b5
    first|refine Zhg (Za2 rfl) ?_|refine Zhg (Zas rfl) ?_
    first|refine Zhg (Zaz rfl) ?_|refine Zhg (Zas rfl) ?_
    first|refine Zhg (Zaz rfl) ?_|refine Zhg (Zas rfl) ?_
    refine Zg3 ?_
    refine Ct.o ?_
    refine Zno Tryz.mixed ?_
    refine Ct.o ?_
    refine Zgb ?_
    first|refine Zhg (Zaw rfl) ?_|refine Zhg (Zar rfl) ?_
    first|refine Zhg (Zcr rfl) ?_|refine Zhg (Zct) ?_|refine Zhg (Zcu rfl) ?_
    refine Zhg (Zbh (b := 16) rfl rfl (by omega)) ?_
    first|refine Zhg (Zaz rfl) ?_|refine Zhg (Zas rfl) ?_
    refine Zg3 ?_
    refine Ct.o ?_
    refine Zgb ?_
    first|refine Zhg (Zat rfl) ?_|refine Zhg (Zar rfl) ?_
    refine Zhg (Zbn (b := 0) rfl rfl) ?_
    refine Zg3 ?_
    refine Ct.o ?_
    refine Zgg rfl (fun h => ?_) (fun h => absurd h (by omega))
    refine Ct.o ?_
    refine Zgb ?_
    first|refine Zhg (Za2 rfl) ?_|refine Zhg (Zas rfl) ?_
    first|refine Zhg (Zaz rfl) ?_|refine Zhg (Zas rfl) ?_
    first|refine Zhg (Zaz rfl) ?_|refine Zhg (Zas rfl) ?_
    refine Zg3 ?_
    refine Ct.o ?_
    refine rx3 (Zhc rfl (Zg9 rfl (Zg9 rfl (Zg7)))) ?_
    exact ⟨_, ⟨none, 0, rfl, rfl⟩, (Imp.arr (N := L) qV).trans Imp.own_nil⟩
  by_cases hlong : 1048576 < more.length ∨ 1048576 < box.length - 16
  · have e : lookR key nonce more box = ([], 0#64, 3) := by unfold lookR; rw [if_neg h16, if_pos hlong]
    rw [e]
    refine fn_x Tryz.func44 rfl rfl rfl Tryz.mixed (by kernel_rfl) ?_
    intro w0
    refine Ct.o ?_
    refine Zgb ?_
    refine Zh5 rfl ?_; intro b4
    refine Zh5 rfl ?_; intro b5
    first|refine Zhg (Za2 rfl) ?_|refine Zhg (Zas rfl) ?_
    first|refine Zhg (Zaz rfl) ?_|refine Zhg (Zas rfl) ?_
    first|refine Zhg (Zaz rfl) ?_|refine Zhg (Zas rfl) ?_
    refine Zg3 ?_
    refine Ct.o ?_
    refine Zno Tryz.mixed ?_
    refine Ct.o ?_
    refine Zgb ?_
    first|refine Zhg (Zaw rfl) ?_|refine Zhg (Zar rfl) ?_
    first|refine Zhg (Zcr rfl) ?_|refine Zhg (Zct) ?_|refine Zhg (Zcu rfl) ?_
    first|refine Zhg (Zmb (b := 16) rfl rfl) ?_|refine Zhg (Zbh rfl rfl) ?_
    first|refine Zhg (Zaz rfl) ?_|refine Zhg (Zas rfl) ?_
    refine Zg3 ?_
    refine Ct.o ?_
    refine Zgb ?_
    first|refine Zhg (Zat rfl) ?_|refine Zhg (Zar rfl) ?_
    first|refine Zhg (Zmf (b := 0) rfl rfl) ?_|refine Zhg (Zbn rfl rfl) ?_
    refine Zhn 21 rfl (decide_eq_false (by omega)) ?_
    refine Zg3 ?_
    refine Ct.o ?_
    refine Zgf rfl ?_
    refine Ct.o ?_
    by_cases h1 : 1048576 < more.length
    · refine Ct.o ?_
      refine Zgb ?_
      first|refine Zhg (Zaw rfl) ?_|refine Zhg (Zar rfl) ?_
      first|refine Zhg (Zcr rfl) ?_|refine Zhg (Zct) ?_|refine Zhg (Zcu rfl) ?_
      first|refine Zhg (Zmh (b := 1048576) rfl rfl) ?_|refine Zhg (Zbp rfl rfl) ?_
      refine Zhm 24 rfl (decide_eq_true (h1)) ?_
      first|refine Zhg (Zau rfl) ?_|refine Zhg (Zar rfl) ?_
      first|refine Zhi rfl ?_|refine Zhj rfl ?_|(refine Zhh rfl ?_; (first|refine Zhg (Zat rfl) ?_|refine Zhg (Zar rfl) ?_))
      first|refine Zhi rfl ?_|refine Zhj rfl ?_|(refine Zhh rfl ?_; (first|refine Zhg (Zmh (b := 1048576) rfl rfl) ?_|refine Zhg (Zbp rfl rfl) ?_))
      first|refine Zhg (Zdz rfl rfl) ?_|refine Zhg (Zd0 rfl rfl) ?_|refine Zhg (Za8 rfl rfl) ?_|refine Zhg (Za9 rfl rfl) ?_|refine Zhg (Za6 rfl rfl) ?_|refine Zhg (Za7 rfl rfl) ?_
      refine Zg3 ?_
      refine Ct.o ?_
      refine Zge rfl ?_
      refine Ct.o ?_
      refine Zgb ?_
      first|refine Zhg (Za2 rfl) ?_|refine Zhg (Zas rfl) ?_
      first|refine Zhg (Zaz rfl) ?_|refine Zhg (Zas rfl) ?_
      first|refine Zhg (Zaz rfl) ?_|refine Zhg (Zas rfl) ?_
      refine Zg3 ?_
      refine Ct.o ?_
      refine rx3 (Zhc rfl (Zg9 rfl (Zg9 rfl (Zg7)))) ?_
      exact ⟨_, ⟨none, 0, rfl, rfl⟩, (Imp.arr (N := L) qV).trans Imp.own_nil⟩
    · refine Ct.o ?_
      refine Zgb ?_
      first|refine Zhg (Zaw rfl) ?_|refine Zhg (Zar rfl) ?_
      first|refine Zhg (Zcr rfl) ?_|refine Zhg (Zct) ?_|refine Zhg (Zcu rfl) ?_
      first|refine Zhg (Zmh (b := 1048576) rfl rfl) ?_|refine Zhg (Zbp rfl rfl) ?_
      refine Zhn 24 rfl (decide_eq_false (h1)) ?_
      first|refine Zhg (Zau rfl) ?_|refine Zhg (Zar rfl) ?_
      first|refine Zhi rfl ?_|refine Zhj rfl ?_|(refine Zhh rfl ?_; (first|refine Zhg (Zat rfl) ?_|refine Zhg (Zar rfl) ?_))
      first|refine Zhi rfl ?_|refine Zhj rfl ?_|(refine Zhh rfl ?_; (first|refine Zhg (Zmh (b := 1048576) rfl rfl) ?_|refine Zhg (Zbp rfl rfl) ?_))
      refine Zhm 27 rfl (decide_eq_true ((hlong.resolve_left h1))) ?_
      first|refine Zhg (Zdz rfl rfl) ?_|refine Zhg (Zd0 rfl rfl) ?_|refine Zhg (Za8 rfl rfl) ?_|refine Zhg (Za9 rfl rfl) ?_|refine Zhg (Za6 rfl rfl) ?_|refine Zhg (Za7 rfl rfl) ?_
      refine Zg3 ?_
      refine Ct.o ?_
      refine Zge rfl ?_
      refine Ct.o ?_
      refine Zgb ?_
      first|refine Zhg (Za2 rfl) ?_|refine Zhg (Zas rfl) ?_
      first|refine Zhg (Zaz rfl) ?_|refine Zhg (Zas rfl) ?_
      first|refine Zhg (Zaz rfl) ?_|refine Zhg (Zas rfl) ?_
      refine Zg3 ?_
      refine Ct.o ?_
      refine rx3 (Zhc rfl (Zg9 rfl (Zg9 rfl (Zg7)))) ?_
      exact ⟨_, ⟨none, 0, rfl, rfl⟩, (Imp.arr (N := L) qV).trans Imp.own_nil⟩
  have h1 : ¬ 1048576 < more.length := fun h => hlong (.inl h)
  have h2 : ¬ 1048576 < box.length - 16 := fun h => hlong (.inr h)
  have hcl : (coverB box).length = box.length - 16 := by simp [coverB]
  have htl : (tagB box).length = 16 := by simp [tagB]; omega
  have hvl := vouchB_len key nonce more (coverB box)
  have hxl := textB_len key nonce box
  refine Con.get (fun w0 w F H => hb.some (by omega) H) ?_
  rintro ⟨b0, o0, rfl⟩
  have hcv : Bs L (.slice (some ⟨b0, o0, none⟩) (box.length - 16) bc) (coverB box) := hb.take (by omega)
  have htg : Bs L (.slice (some ⟨b0, o0 + (box.length - 16), none⟩) (box.length - (box.length - 16)) (bc - (box.length - 16))) (tagB box) := bs_drop hb (by omega) (by omega)
  refine fn_x Tryz.func44 rfl rfl rfl Tryz.mixed (by kernel_rfl) ?_
  intro w0
  refine Ct.o ?_
  refine Zgb ?_
  refine Zh5 rfl ?_; intro b4
  refine Zh5 rfl ?_; intro b5
  first|refine Zhg (Za2 rfl) ?_|refine Zhg (Zas rfl) ?_
  first|refine Zhg (Zaz rfl) ?_|refine Zhg (Zas rfl) ?_
  first|refine Zhg (Zaz rfl) ?_|refine Zhg (Zas rfl) ?_
  refine Zg3 ?_
  refine Ct.o ?_
  refine Zno Tryz.mixed ?_
  refine Ct.o ?_
  refine Zgb ?_
  first|refine Zhg (Zaw rfl) ?_|refine Zhg (Zar rfl) ?_
  first|refine Zhg (Zcr rfl) ?_|refine Zhg (Zct) ?_|refine Zhg (Zcu rfl) ?_
  first|refine Zhg (Zmb (b := 16) rfl rfl) ?_|refine Zhg (Zbh rfl rfl) ?_
  first|refine Zhg (Zaz rfl) ?_|refine Zhg (Zas rfl) ?_
  refine Zg3 ?_
  refine Ct.o ?_
  refine Zgb ?_
  first|refine Zhg (Zat rfl) ?_|refine Zhg (Zar rfl) ?_
  first|refine Zhg (Zmf (b := 0) rfl rfl) ?_|refine Zhg (Zbn rfl rfl) ?_
  refine Zhn 21 rfl (decide_eq_false (by omega)) ?_
  refine Zg3 ?_
  refine Ct.o ?_
  refine Zgf rfl ?_
  refine Ct.o ?_
  refine Zgb ?_
  first|refine Zhg (Zaw rfl) ?_|refine Zhg (Zar rfl) ?_
  first|refine Zhg (Zcr rfl) ?_|refine Zhg (Zct) ?_|refine Zhg (Zcu rfl) ?_
  first|refine Zhg (Zmh (b := 1048576) rfl rfl) ?_|refine Zhg (Zbp rfl rfl) ?_
  refine Zhn 24 rfl (decide_eq_false (h1)) ?_
  first|refine Zhg (Zau rfl) ?_|refine Zhg (Zar rfl) ?_
  first|refine Zhi rfl ?_|refine Zhj rfl ?_|(refine Zhh rfl ?_; (first|refine Zhg (Zat rfl) ?_|refine Zhg (Zar rfl) ?_))
  first|refine Zhi rfl ?_|refine Zhj rfl ?_|(refine Zhh rfl ?_; (first|refine Zhg (Zmh (b := 1048576) rfl rfl) ?_|refine Zhg (Zbp rfl rfl) ?_))
  refine Zhn 27 rfl (decide_eq_false (h2)) ?_
  first|refine Zhg (Zdz rfl rfl) ?_|refine Zhg (Zd0 rfl rfl) ?_|refine Zhg (Za8 rfl rfl) ?_|refine Zhg (Za9 rfl rfl) ?_|refine Zhg (Za6 rfl rfl) ?_|refine Zhg (Za7 rfl rfl) ?_
  refine Zg3 ?_
  refine Ct.o ?_
  refine Zgf rfl ?_
  refine Ct.o ?_
  refine Zij (_) [1, 6, 7] (.q 2 (.q 3 (.q 4 (.q 5 (.r 0 (.r 1 (.e 6 true (.a 7 (.e 8 false .nil))))))))) (by kernel_rfl) (by kernel_rfl) (Imp.refl _) ?_
  first|refine Zim rfl (Zaw rfl) ?_|refine Zim rfl (Zar rfl) ?_
  first|refine Zim rfl (Zaw rfl) ?_|refine Zim rfl (Zar rfl) ?_
  first|refine Zim rfl (Zat rfl) ?_|refine Zim rfl (Zar rfl) ?_
  refine Zim rfl (Zm0 (h := box.length - 16) rfl rfl (by omega)) ?_
  first|refine Ziy rfl rfl qH qZ ?_|refine Zix rfl rfl qH qZ rfl ?_
  first|refine Ziy rfl rfl qH qZ ?_|refine Zix rfl rfl qH qZ rfl ?_
  refine Ziq rfl ?_
  refine Zh8 rfl (by kernel_rfl) (vouch_x (L := L) key nonce hk hn hm hcv (by omega) (by omega)) rfl qT ?_
  rintro _ _ ⟨rfl, rfl⟩
  refine Zg2 qA ?_
  refine Zg3 ⟨fun _ => Imp.arr qV, ?_⟩
  refine Zir rfl (cs := ((List.replicate 16 0#8).map u8b).toArray) rfl ?_; intro b12
  refine Ziq rfl ?_
  first|refine Zhy rfl rfl qR qZ qN qZ ?_|refine Zhx rfl rfl qR qZ qN qZ rfl ?_
  refine Zg3 ⟨(fun hh => Bool.noConfusion hh), ?_⟩
  refine Zik ?_
  refine Ct.o ?_
  have hva := bs_full (M := cl b12 ((vouchB key nonce more (coverB box)).map u8b).toArray 65 :: L) (n := 16) .here hvl (by omega)
  refine Ct.o ?_
  refine Zij ([]) [] (.q 0 (.q 1 (.q 2 (.q 3 (.e 4 false (.q 5 .nil)))))) (by kernel_rfl) (by kernel_rfl) (Imp.arr Arr.stop) ?_
  refine Zim rfl (Zmy (h := 16) rfl rfl) ?_
  first|refine Zim rfl (Zaw rfl) ?_|refine Zim rfl (Zar rfl) ?_
  first|refine Zim rfl (Zat rfl) ?_|refine Zim rfl (Zar rfl) ?_
  first|refine Zim rfl (Zna (l := box.length - 16) (h := box.length) rfl qB qB) ?_|refine Zim rfl (Zmz (l := box.length - 16) (h := box.length) rfl qB qB) ?_
  refine Ziq rfl ?_
  refine Zh8 rfl (by kernel_rfl) (same_x (L := cl b12 ((vouchB key nonce more (coverB box)).map u8b).toArray 65 :: L) hva (htg.imp Imp.tail) (by omega)) rfl qT ?_
  rintro _ _ ⟨rfl, rfl⟩
  refine Zg2 qA ?_
  refine Zg3 ⟨(fun hh => Bool.noConfusion hh), ?_⟩
  first|refine Zim rfl (Zaz rfl) ?_|refine Zim rfl (Zas rfl) ?_
  refine Zik ?_
  refine Ct.o ?_
  refine Zij (_) [1] (.q 2 (.q 3 (.q 4 (.r 0 (.r 1 (.e 5 false (.q 6 (.q 7 (.q 8 (.q 9 (.q 10 .nil))))))))))) (by kernel_rfl) (by kernel_rfl) (Imp.refl _) ?_
  first|refine Zim rfl (Zaw rfl) ?_|refine Zim rfl (Zar rfl) ?_
  first|refine Zim rfl (Zat rfl) ?_|refine Zim rfl (Zar rfl) ?_
  refine Zim rfl (Zm0 (h := box.length - 16) rfl rfl (by omega)) ?_
  first|refine Ziy rfl rfl qH qZ ?_|refine Zix rfl rfl qH qZ rfl ?_
  first|refine Ziy rfl rfl qH qZ ?_|refine Zix rfl rfl qH qZ rfl ?_
  refine Ziq rfl ?_
  refine Zh8 rfl (by kernel_rfl) (xor_x (L := L) key nonce hk hn hcv (by omega)) rfl qT ?_
  rintro _ _ ⟨g, rfl, rfl⟩
  refine Zg2 qA ?_
  refine Zg3 ⟨(fun hh => Bool.noConfusion hh), ?_⟩
  first|refine Zim rfl (Zmm rfl) ?_|refine Zim rfl (Zar rfl) ?_
  refine Zim rfl (Zco rfl rfl) ?_
  refine Zim rfl (Zco rfl rfl) ?_
  first|refine Zim rfl (Za2 rfl) ?_|refine Zim rfl (Zas rfl) ?_
  first|refine Zim rfl (Zaz rfl) ?_|refine Zim rfl (Zas rfl) ?_
  refine Zik ?_
  refine Ct.o ?_
  rw [show xorB key nonce 64 (coverB box) = textB key nonce box from rfl, hcl]
  refine Ct.o ?_
  refine Zgb ?_
  first|refine Zhg (Zat rfl) ?_|refine Zhg (Zar rfl) ?_
  first|refine Zhg (Zmk (b := 0) rfl rfl) ?_|refine Zhg (Zbs rfl rfl) ?_
  refine Zhn 51 rfl (decide_eq_false ((fun h => h rfl))) ?_
  refine Zg3 ?_
  refine Ct.o ?_
  refine Zgf rfl ?_
  refine Ct.o ?_
  by_cases hr : vouchB key nonce more (coverB box) = tagB box
  · have e : lookR key nonce more box = (textB key nonce box, 18446744073709551615#64, 0) := by unfold lookR; rw [if_neg h16, if_neg hlong, if_pos (show rightB key nonce more box = true from decide_eq_true hr)]
    rw [e, if_pos hr]
    refine Ct.o ?_
    refine Zgb ?_
    first|refine Zhg (Zat rfl) ?_|refine Zhg (Zar rfl) ?_
    refine Zhg (Zlo (y := 0#64) rfl rfl) ?_
    refine Zhm 53 rfl (decide_eq_true ((by decide))) ?_
    refine Zg3 ?_
    refine Ct.o ?_
    refine Zge rfl ?_
    refine Ct.o ?_
    refine Zgb ?_
    first|refine Zhg (Zaw rfl) ?_|refine Zhg (Zar rfl) ?_
    first|refine Zhg (Zat rfl) ?_|refine Zhg (Zar rfl) ?_
    first|refine Zhg (Za2 rfl) ?_|refine Zhg (Zas rfl) ?_
    first|refine Zhg (Zaz rfl) ?_|refine Zhg (Zas rfl) ?_
    first|refine Zhg (Zaz rfl) ?_|refine Zhg (Zas rfl) ?_
    refine Zg3 ?_
    refine Ct.o ?_
    refine rx3 (Zhc rfl (Zg9 rfl (Zg9 rfl (Zg7)))) ?_
    refine ⟨_, ⟨some ⟨g, 0, none⟩, box.length - 16, by dsimp only; rw [hxl]; rfl, rfl⟩, ?_⟩
    dsimp only
    rw [hxl]
    exact (Imp.arr (N := cl g ((textB key nonce box).map u8b).toArray 5 :: L) qV).trans (Imp.own_mk (by omega) (by omega) (by simp [hxl]) (by simp; exact List.take_of_length_le (by simp [hxl])))
  · have e : lookR key nonce more box = (List.replicate (box.length - 16) 0#8, 0#64, 0) := by unfold lookR; rw [if_neg h16, if_neg hlong, if_neg (show ¬ rightB key nonce more box = true from fun h => hr (of_decide_eq_true h))]
    rw [e, if_neg hr]
    refine Ct.o ?_
    refine Zgb ?_
    first|refine Zhg (Zat rfl) ?_|refine Zhg (Zar rfl) ?_
    refine Zhg (Zlo (y := 0#64) rfl rfl) ?_
    refine Zhn 53 rfl (decide_eq_false ((fun h => h rfl))) ?_
    refine Zg3 ?_
    refine Ct.o ?_
    refine Zgf rfl ?_
    refine Ct.o ?_
    refine Zgb ?_
    first|refine Zhg (Zaw rfl) ?_|refine Zhg (Zar rfl) ?_
    first|refine Zhg (Zcr rfl) ?_|refine Zhg (Zct) ?_|refine Zhg (Zcu rfl) ?_
    first|refine Zhg (Zat rfl) ?_|refine Zhg (Zar rfl) ?_
    refine Zg3 ?_
    refine Ct.o ?_
    refine Zgo [(16, 16), (58, 64)] (by kernel_rfl) (fun i : Nat => i ≤ box.length - 16) (fun i => cl g ((List.replicate i 0#8 ++ (textB key nonce box).drop i).map u8b).toArray 5 :: L) (fun i => [(58, nvv i)]) (fun i => box.length - 16 - i) 0 (by omega) (by show Imp _ (cl g (([] ++ textB key nonce box).map u8b).toArray _ :: L); rw [List.nil_append]; exact qI) ⟨rfl, trivial⟩ ?_
    intro i u hi
    have hzl : (List.replicate i 0#8 ++ (textB key nonce box).drop i).length = box.length - 16 := by simp [hxl]; omega
    refine Ct.o ?_
    refine Zgb ?_
    first|refine Zhg (Zmf rfl rfl) ?_|refine Zhg (Zbn rfl rfl) ?_
    refine Zg3 ?_
    refine Ct.o ?_
    refine Zgg rfl (fun hB => ?_) (fun hB => ?_)
    · refine Ct.o ?_
      refine Zgb ?_
      first|refine Zhg (Zat rfl) ?_|refine Zhg (Zar rfl) ?_
      first|refine Zhg (Zaz rfl) ?_|refine Zhg (Zas rfl) ?_
      refine Zg3 ?_
      refine Ct.o ?_
      refine Zgb ?_
      first|refine Zhg (Zaw rfl) ?_|refine Zhg (Zar rfl) ?_
      first|refine Zhg (Zat rfl) ?_|refine Zhg (Zar rfl) ?_
      first|refine Zhg (Zl4 rfl rfl) ?_|refine Zhg (Zl1 rfl rfl) ?_
      refine Zhs rfl (v := u8b 0#8) rfl rfl qR qZ (setL (f := u8b)) ?_
      refine Zg3 ?_
      refine Ct.o ?_
      have e2 : (List.replicate i 0#8 ++ (textB key nonce box).drop i).set i 0#8 = List.replicate (i + 1) 0#8 ++ (textB key nonce box).drop (i + 1) := by
        rw [List.set_append_right _ _ (by simp), List.length_replicate, Nat.sub_self, List.drop_eq_getElem_cons (by omega), List.set_cons_zero, List.replicate_succ', List.append_assoc]; rfl
      rw [e2]
      refine Ct.o ?_
      refine Zgb ?_
      first|refine Zhg (Zma (b := 1) rfl rfl) ?_|refine Zhg (Zbg rfl rfl) ?_
      first|refine Zhg (Zat rfl) ?_|refine Zhg (Zar rfl) ?_
      refine Zg3 ?_
      refine Ct.o ?_
      exact Zgl (i + 1) qO (by omega) qI ⟨rfl, trivial⟩
    · have hie : i = box.length - 16 := by omega
      subst hie
      rw [List.drop_of_length_le (by omega), List.append_nil]
      refine Ct.o ?_
      refine Zgb ?_
      first|refine Zhg (Zaw rfl) ?_|refine Zhg (Zar rfl) ?_
      first|refine Zhg (Zat rfl) ?_|refine Zhg (Zar rfl) ?_
      first|refine Zhg (Za2 rfl) ?_|refine Zhg (Zas rfl) ?_
      first|refine Zhg (Zaz rfl) ?_|refine Zhg (Zas rfl) ?_
      first|refine Zhg (Zaz rfl) ?_|refine Zhg (Zas rfl) ?_
      refine Zg3 ?_
      refine Ct.o ?_
      refine rx3 (Zhc rfl (Zg9 rfl (Zg9 rfl (Zg7)))) ?_
      refine ⟨_, ⟨some ⟨g, 0, none⟩, box.length - 16, by dsimp only; rw [List.length_replicate]; rfl, rfl⟩, ?_⟩
      dsimp only
      rw [List.length_replicate]
      exact (Imp.arr (N := cl g ((List.replicate (box.length - 16) 0#8).map u8b).toArray 5 :: L) qV).trans (Imp.own_mk (by omega) (by omega) (by simp) (by simp))
/-- What Open answers. -/
def openR (key nonce more box : List Byte) : List Byte × Nat :=
  if box.length < 16 then ([], 4) else if 1048576 < more.length ∨ 1048576 < box.length - 16 then ([], 3)
  else if rightB key nonce more box = true then (textB key nonce box, 0) else ([], 70)
theorem open_x {L : List Asrt} (key nonce : List Byte) (hk : key.length = 32) (hn : nonce.length = 12) {vm vb : Value} {more box : List Byte} (hm : Bs L vm more) (hb : Bs L vb box) (hml : more.length ≤ 140737488351232) (hbl : box.length ≤ 140737488351232) :
    Con Tryz.prog 28 [.agg (key.map u8b).toArray, .agg (nonce.map u8b).toArray, vm, vb] L (fun r M => ∃ a c, r = .tuple #[.slice a (openR key nonce more box).1.length c, nvv (openR key nonce more box).2] ∧ M = own 5 1 (.slice a (openR key nonce more box).1.length c) (openR key nonce more box).1.length ((openR key nonce more box).1.map u8b) :: L) := by
  refine Con.get (fun w0 w F H => hm.sh _ _ _ H) ?_
  rintro ⟨ma, mc, rfl, hmc, hmcm⟩
  refine Con.get (fun w0 w F H => hb.sh _ _ _ H) ?_
  rintro ⟨ba, bc, rfl, hbc, hbcm⟩
  refine fn_x Tryz.func28 rfl rfl rfl Tryz.mixed (by kernel_rfl) ?_
  intro w0
  refine Ct.o ?_
  refine Zgb ?_
  refine Zh5 rfl ?_; intro b4
  refine Zh5 rfl ?_; intro b5
  first|refine Zhg (Za2 rfl) ?_|refine Zhg (Zas rfl) ?_
  first|refine Zhg (Zaz rfl) ?_|refine Zhg (Zas rfl) ?_
  refine Zg3 ?_
  refine Ct.o ?_
  refine Zgb ?_
  first|refine Zhr rfl qH qZ ?_|refine Zhq rfl qH qZ rfl ?_
  first|refine Zhr rfl qH qZ ?_|refine Zhq rfl qH qZ rfl ?_
  first|refine Zhg (Zaw rfl) ?_|refine Zhg (Zar rfl) ?_
  first|refine Zhg (Zaw rfl) ?_|refine Zhg (Zar rfl) ?_
  refine Zh8 rfl (by kernel_rfl) (look_x (L := L) key nonce hk hn hm hb hml hbl) rfl qT ?_
  rintro _ _ ⟨xa, xc, rfl, rfl⟩
  refine Zg2 qA ?_
  first|refine Zhg (Zmm rfl) ?_|refine Zhg (Zar rfl) ?_
  refine Zhg (Zco rfl rfl) ?_
  refine Zhg (Zco rfl rfl) ?_
  refine Zhg (Zco rfl rfl) ?_
  first|refine Zhg (Za2 rfl) ?_|refine Zhg (Zas rfl) ?_
  first|refine Zhg (Zaz rfl) ?_|refine Zhg (Zas rfl) ?_
  first|refine Zhg (Zaz rfl) ?_|refine Zhg (Zas rfl) ?_
  refine Zg3 ?_
  refine Ct.o ?_
  have drop0 : ∀ N, Imp (own 5 1 (.slice xa (lookR key nonce more box).1.length xc) (lookR key nonce more box).1.length ((lookR key nonce more box).1.map u8b) :: N) (own 5 1 (.slice none 0 0) 0 [] :: N) := fun N => Imp.tail.trans Imp.own_nil
  unfold lookR openR
  by_cases h16 : box.length < 16
  · simp only [if_pos h16]
    refine Ct.o ?_
    refine Zgb ?_
    first|refine Zhg (Zat rfl) ?_|refine Zhg (Zar rfl) ?_
    first|refine Zhg (Zmk (b := 0) rfl rfl) ?_|refine Zhg (Zbs rfl rfl) ?_
    refine Zhm 23 rfl (decide_eq_true (by decide)) ?_
    refine Zg3 ?_
    refine Ct.o ?_
    refine Zge rfl ?_
    refine Ct.o ?_
    refine Zgb ?_
    first|refine Zhg (Zat rfl) ?_|refine Zhg (Zar rfl) ?_
    first|refine Zhg (Za2 rfl) ?_|refine Zhg (Zas rfl) ?_
    first|refine Zhg (Zaz rfl) ?_|refine Zhg (Zas rfl) ?_
    refine Zg3 ?_
    refine Ct.o ?_
    refine rx2 (Zhc rfl (Zg9 rfl (Zg7))) ?_
    exact ⟨_, ⟨none, 0, rfl, rfl⟩, (Imp.arr (N := L) qV).trans Imp.own_nil⟩
  · simp only [if_neg h16]
    by_cases hlong : 1048576 < more.length ∨ 1048576 < box.length - 16
    · simp only [if_pos hlong]
      refine Ct.o ?_
      refine Zgb ?_
      first|refine Zhg (Zat rfl) ?_|refine Zhg (Zar rfl) ?_
      first|refine Zhg (Zmk (b := 0) rfl rfl) ?_|refine Zhg (Zbs rfl rfl) ?_
      refine Zhm 23 rfl (decide_eq_true (by decide)) ?_
      refine Zg3 ?_
      refine Ct.o ?_
      refine Zge rfl ?_
      refine Ct.o ?_
      refine Zgb ?_
      first|refine Zhg (Zat rfl) ?_|refine Zhg (Zar rfl) ?_
      first|refine Zhg (Za2 rfl) ?_|refine Zhg (Zas rfl) ?_
      first|refine Zhg (Zaz rfl) ?_|refine Zhg (Zas rfl) ?_
      refine Zg3 ?_
      refine Ct.o ?_
      refine rx2 (Zhc rfl (Zg9 rfl (Zg7))) ?_
      exact ⟨_, ⟨none, 0, rfl, rfl⟩, (Imp.arr (N := L) qV).trans Imp.own_nil⟩
    · simp only [if_neg hlong]
      by_cases hr : rightB key nonce more box = true
      · simp only [if_pos hr]
        refine Ct.o ?_
        refine Zgb ?_
        first|refine Zhg (Zat rfl) ?_|refine Zhg (Zar rfl) ?_
        first|refine Zhg (Zmk (b := 0) rfl rfl) ?_|refine Zhg (Zbs rfl rfl) ?_
        refine Zhn 23 rfl (decide_eq_false (by decide)) ?_
        refine Zg3 ?_
        refine Ct.o ?_
        refine Zgf rfl ?_
        refine Ct.o ?_
        refine Zgb ?_
        first|refine Zhg (Zat rfl) ?_|refine Zhg (Zar rfl) ?_
        refine Zhg (Zln (y := 0#64) rfl rfl) ?_
        refine Zhn 26 rfl (decide_eq_false (by decide)) ?_
        refine Zg3 ?_
        refine Ct.o ?_
        refine Zgf rfl ?_
        refine Ct.o ?_
        refine Zgb ?_
        first|refine Zhg (Zaw rfl) ?_|refine Zhg (Zar rfl) ?_
        first|refine Zhg (Za2 rfl) ?_|refine Zhg (Zas rfl) ?_
        first|refine Zhg (Zaz rfl) ?_|refine Zhg (Zas rfl) ?_
        refine Zg3 ?_
        refine Ct.o ?_
        refine rx2 (Zhc rfl (Zg9 rfl (Zg7))) ?_
        exact ⟨_, ⟨xa, xc, rfl, rfl⟩, qI⟩
      · simp only [if_neg hr]
        refine Ct.o ?_
        refine Zgb ?_
        first|refine Zhg (Zat rfl) ?_|refine Zhg (Zar rfl) ?_
        first|refine Zhg (Zmk (b := 0) rfl rfl) ?_|refine Zhg (Zbs rfl rfl) ?_
        refine Zhn 23 rfl (decide_eq_false (by decide)) ?_
        refine Zg3 ?_
        refine Ct.o ?_
        refine Zgf rfl ?_
        refine Ct.o ?_
        refine Zgb ?_
        first|refine Zhg (Zat rfl) ?_|refine Zhg (Zar rfl) ?_
        refine Zhg (Zln (y := 0#64) rfl rfl) ?_
        refine Zhm 26 rfl (decide_eq_true (by decide)) ?_
        refine Zg3 ?_
        refine Ct.o ?_
        refine Zge rfl ?_
        refine Ct.o ?_
        refine Zgb ?_
        first|refine Zhg (Za2 rfl) ?_|refine Zhg (Zas rfl) ?_
        first|refine Zhg (Zaz rfl) ?_|refine Zhg (Zas rfl) ?_
        refine Zg3 ?_
        refine Ct.o ?_
        refine rx2 (Zhc rfl (Zg9 rfl (Zg7))) ?_
        exact ⟨_, ⟨none, 0, rfl, rfl⟩, (Imp.arr (N := L) qV).trans Imp.own_nil⟩
end Go.Sl

/- page: Seal, Open, walked. -/
set_option maxHeartbeats 4000000
set_option maxRecDepth 10000
set_option linter.unusedVariables false
set_option linter.unusedSimpArgs false
namespace Go.Sl
open Go Go.Proofs
attribute [local irreducible] cl pt own old pur ex all den denOps denS xOps xC cX CX xthen xblk xcut xloop xgo xng retX resX Calls PV Rd Con
attribute [local irreducible] code blockB ksB xorB vouchB leB headB moreB sealB rightB textB
theorem pgSeal_x {L : List Asrt} (key : List Byte) (hk : key.length = 32) (p : Plc) {vt : Value} {text : List Byte} (ht : Bs L vt text) (htl : text.length ≤ 140737488351232) :
    Con Tryz.prog 7 [.agg (key.map u8b).toArray, .agg (plc p), vt] L (fun r M => ∃ a c, r = .tuple #[.slice a (pgSealR key p text).1.length c, nvv (pgSealR key p text).2] ∧ M = own 5 1 (.slice a (pgSealR key p text).1.length c) (pgSealR key p text).1.length ((pgSealR key p text).1.map u8b) :: L) := by
  refine Con.get (fun w0 w F H => ht.sh _ _ _ H) ?_
  rintro ⟨ta, tc, rfl, htc, htcm⟩
  by_cases hlong : 4096 < text.length
  · have e : pgSealR key p text = ([], 3) := if_pos hlong
    rw [e]
    refine fn_x Tryz.func7 rfl rfl rfl Tryz.mixed (by kernel_rfl) ?_
    intro w0
    refine Ct.o ?_
    refine Zgb ?_
    refine Zh5 rfl ?_; intro b3
    refine Zh5 rfl ?_; intro b4
    first|refine Zhg (Za2 rfl) ?_|refine Zhg (Zas rfl) ?_
    first|refine Zhg (Zaz rfl) ?_|refine Zhg (Zas rfl) ?_
    refine Zg3 ?_
    refine Ct.o ?_
    refine Zgb ?_
    first|refine Zhg (Zaw rfl) ?_|refine Zhg (Zar rfl) ?_
    first|refine Zhg (Zcr rfl) ?_|refine Zhg (Zct) ?_|refine Zhg (Zcu rfl) ?_
    first|refine Zhg (Zmh (b := 4096) rfl rfl) ?_|refine Zhg (Zbp rfl rfl) ?_
    refine Zhm 14 rfl (decide_eq_true (hlong)) ?_
    refine Zg3 ?_
    refine Ct.o ?_
    refine Zge rfl ?_
    refine Ct.o ?_
    refine Zgb ?_
    first|refine Zhg (Za2 rfl) ?_|refine Zhg (Zas rfl) ?_
    first|refine Zhg (Zaz rfl) ?_|refine Zhg (Zas rfl) ?_
    refine Zg3 ?_
    refine Ct.o ?_
    refine rx2 (Zhc rfl (Zg9 rfl (Zg7))) ?_
    exact ⟨_, ⟨none, 0, rfl, rfl⟩, (Imp.arr (N := L) qV).trans Imp.own_nil⟩
  · have e : pgSealR key p text = (pgSealB key p text, 0) := if_neg hlong
    rw [e]
    have hml := moreB_len p
    have hhl := headB_len p
    have hsl := sealB_len key (headB p) (moreB p) text
    have esr : sealR key (headB p) (moreB p) text = (sealB key (headB p) (moreB p) text, 0) := if_neg (by omega)
    have hs := fun ma mc => seal_x (L := own 5 1 (.slice ma (moreB p).length mc) (moreB p).length ((moreB p).map u8b) :: L) key (headB p) hk hhl (Bs.own .here) (ht.imp Imp.tail) (by omega) (by omega)
    rw [esr] at hs
    dsimp only at hs
    refine fn_x Tryz.func7 rfl rfl rfl Tryz.mixed (by kernel_rfl) ?_
    intro w0
    refine Ct.o ?_
    refine Zgb ?_
    refine Zh5 rfl ?_; intro b3
    refine Zh5 rfl ?_; intro b4
    first|refine Zhg (Za2 rfl) ?_|refine Zhg (Zas rfl) ?_
    first|refine Zhg (Zaz rfl) ?_|refine Zhg (Zas rfl) ?_
    refine Zg3 ?_
    refine Ct.o ?_
    refine Zgb ?_
    first|refine Zhg (Zaw rfl) ?_|refine Zhg (Zar rfl) ?_
    first|refine Zhg (Zcr rfl) ?_|refine Zhg (Zct) ?_|refine Zhg (Zcu rfl) ?_
    first|refine Zhg (Zmh (b := 4096) rfl rfl) ?_|refine Zhg (Zbp rfl rfl) ?_
    refine Zhn 14 rfl (decide_eq_false (hlong)) ?_
    refine Zg3 ?_
    refine Ct.o ?_
    refine Zgf rfl ?_
    refine Ct.o ?_
    refine Zgb ?_
    first|refine Zhr rfl qH qZ ?_|refine Zhq rfl qH qZ rfl ?_
    refine Zh8 rfl (by kernel_rfl) (pghead_x p) rfl qT ?_
    rintro _ _ ⟨rfl, rfl⟩
    refine Zg2 qA ?_
    refine Zhz (cs := ((List.replicate 12 0#8).map u8b).toArray) rfl ?_; intro b8
    first|refine Zhy rfl rfl qR qZ qN qZ ?_|refine Zhx rfl rfl qR qZ qN qZ rfl ?_
    refine Zg3 ?_
    refine Ct.o ?_
    refine Zij ([cl b3 (key.map u8b).toArray 23, cl b8 ((headB p).map u8b).toArray 45, cl b4 (plc p) 27]) [1, 2, 3] (.q 4 (.r 0 (.r 1 (.r 2 (.e 3 true (.e 5 false (.q 6 (.q 7 (.q 8 (.q 9 (.q 10 .nil))))))))))) (by kernel_rfl) (by kernel_rfl) (Imp.arr qV) ?_
    first|refine Zim rfl (Zaw rfl) ?_|refine Zim rfl (Zar rfl) ?_
    first|refine Ziy rfl rfl qH qZ ?_|refine Zix rfl rfl qH qZ rfl ?_
    first|refine Ziy rfl rfl qH qZ ?_|refine Zix rfl rfl qH qZ rfl ?_
    first|refine Ziy rfl rfl qH qZ ?_|refine Zix rfl rfl qH qZ rfl ?_
    refine Ziq rfl ?_
    refine Zh8 rfl (by kernel_rfl) (pgmore_x p) rfl qT ?_
    rintro _ _ ⟨ma, mc, rfl, rfl⟩
    refine Zg2 qA ?_
    refine Zg3 ⟨fun _ => Imp.arr qV, ?_⟩
    refine Ziq rfl ?_
    refine Zh8 rfl (by kernel_rfl) (hs ma mc) rfl qT ?_
    rintro _ _ ⟨sa, sc, rfl, rfl⟩
    refine Zg2 qA ?_
    refine Zg3 ⟨(fun hh => Bool.noConfusion hh), ?_⟩
    first|refine Zim rfl (Zmm rfl) ?_|refine Zim rfl (Zar rfl) ?_
    refine Zim rfl (Zco rfl rfl) ?_
    refine Zim rfl (Zco rfl rfl) ?_
    first|refine Zim rfl (Za2 rfl) ?_|refine Zim rfl (Zas rfl) ?_
    first|refine Zim rfl (Zaz rfl) ?_|refine Zim rfl (Zas rfl) ?_
    refine Zik ?_
    refine Ct.o ?_
    refine Zgb ?_
    first|refine Zhg (Zat rfl) ?_|refine Zhg (Zar rfl) ?_
    first|refine Zhg (Zmk (b := 0) rfl rfl) ?_|refine Zhg (Zbs rfl rfl) ?_
    refine Zhn 27 rfl (decide_eq_false ((fun h => h rfl))) ?_
    refine Zg3 ?_
    refine Ct.o ?_
    refine Zgf rfl ?_
    refine Ct.o ?_
    refine Zgb ?_
    first|refine Zhg (Zaw rfl) ?_|refine Zhg (Zar rfl) ?_
    first|refine Zhg (Zcr rfl) ?_|refine Zhg (Zct) ?_|refine Zhg (Zcu rfl) ?_
    first|refine Zhg (Zma (a := 12) rfl rfl) ?_|refine Zhg (Zbg rfl rfl) ?_
    refine Zm3 (f := u8b) (a := 0#8) (len := 0) rfl rfl rfl qS qS qS ?_; intro b32
    first|refine Zhg (Za2 rfl) ?_|refine Zhg (Zas rfl) ?_
    refine Zg3 ?_
    refine Ct.o ?_
    refine Zgp (Imp.own_mk (n := 0) (cap := 12 + (sealB key (headB p) (moreB p) text).length) (size := 1) (xs := []) (by omega) (by omega) (by simp) (by simp)) ?_
    have hhr : Rd [cl b8 ((headB p).map u8b).toArray 45] 1 (.slice (some ⟨b8, 0, none⟩) 12 12) 12 ((headB p).map u8b) :=
      Rd.cl (o := 0) .here (by simp [hhl]) (by simp [hhl]) (by simp; exact List.take_of_length_le (by simp [hhl]))
    have hsr : Rd [own 5 1 (.slice sa (sealB key (headB p) (moreB p) text).length sc) (sealB key (headB p) (moreB p) text).length ((sealB key (headB p) (moreB p) text).map u8b)] 1 (.slice sa (sealB key (headB p) (moreB p) text).length sc) (sealB key (headB p) (moreB p) text).length ((sealB key (headB p) (moreB p) text).map u8b) := Rd.own .here
    refine Ct.o ?_
    refine Zgb ?_
    first|refine Zhg (Zaw rfl) ?_|refine Zhg (Zar rfl) ?_
    refine Zhg (Zmy (h := 12) rfl rfl) ?_
    refine Zia rfl rfl qH (hhr.imp (Imp.arr qV)) qN (by omega) qS ?_; intro a1 c1
    first|refine Zhg (Zaw rfl) ?_|refine Zhg (Zar rfl) ?_
    refine Zia rfl rfl qH (hsr.imp (Imp.arr qV)) qN (by omega) qS ?_; intro a2 c2
    first|refine Zhg (Za2 rfl) ?_|refine Zhg (Zas rfl) ?_
    first|refine Zhg (Zaz rfl) ?_|refine Zhg (Zas rfl) ?_
    refine Zg3 ?_
    refine Ct.o ?_
    have e1 : [] ++ (headB p).map u8b ++ (sealB key (headB p) (moreB p) text).map u8b = (pgSealB key p text).map u8b := by unfold pgSealB; simp
    have e2 : 0 + 12 + (sealB key (headB p) (moreB p) text).length = (pgSealB key p text).length := by rw [pgSealB_len]; omega
    rw [e1, e2]
    refine rx2 (Zhc rfl (Zg9 rfl (Zg7))) ?_
    exact ⟨_, ⟨a2, c2, rfl, rfl⟩, qI⟩
theorem pgOpen_x {L : List Asrt} (key : List Byte) (hk : key.length = 32) (p : Plc) {vb : Value} {box : List Byte} (hb : Bs L vb box) (hbl : box.length ≤ 140737488351232) :
    Con Tryz.prog 15 [.agg (key.map u8b).toArray, .agg (plc p), vb] L (fun r M => ∃ a c, r = .tuple #[.slice a (pgOpenR key p box).1.length c, nvv (pgOpenR key p box).2] ∧ M = own 5 1 (.slice a (pgOpenR key p box).1.length c) (pgOpenR key p box).1.length ((pgOpenR key p box).1.map u8b) :: L) := by
  refine Con.get (fun w0 w F H => hb.sh _ _ _ H) ?_
  rintro ⟨ba, bc, rfl, hbc, hbcm⟩
  have eno : ¬ pgFits p box → pgOpenR key p box = ([], 120) := fun h => if_neg (fun h2 => h h2.1)
  by_cases hlong : 4124 < box.length
  · rw [eno (fun h => by have := h.2.1; omega)]
    refine fn_x Tryz.func15 rfl rfl rfl Tryz.mixed (by kernel_rfl) ?_
    intro w0
    refine Ct.o ?_
    refine Zgb ?_
    refine Zh5 rfl ?_; intro b3
    refine Zh5 rfl ?_; intro b4
    first|refine Zhg (Za2 rfl) ?_|refine Zhg (Zas rfl) ?_
    first|refine Zhg (Zaz rfl) ?_|refine Zhg (Zas rfl) ?_
    refine Zg3 ?_
    refine Ct.o ?_
    refine Zgb ?_
    first|refine Zhg (Zaw rfl) ?_|refine Zhg (Zar rfl) ?_
    first|refine Zhg (Zcr rfl) ?_|refine Zhg (Zct) ?_|refine Zhg (Zcu rfl) ?_
    first|refine Zhg (Zmh (b := 4124) rfl rfl) ?_|refine Zhg (Zbp rfl rfl) ?_
    refine Zhm 14 rfl (decide_eq_true (hlong)) ?_
    refine Zg3 ?_
    refine Ct.o ?_
    refine Zge rfl ?_
    refine Ct.o ?_
    refine Zgb ?_
    first|refine Zhg (Za2 rfl) ?_|refine Zhg (Zas rfl) ?_
    first|refine Zhg (Zaz rfl) ?_|refine Zhg (Zas rfl) ?_
    refine Zg3 ?_
    refine Ct.o ?_
    refine rx2 (Zhc rfl (Zg9 rfl (Zg7))) ?_
    exact ⟨_, ⟨none, 0, rfl, rfl⟩, (Imp.arr (N := L) qV).trans Imp.own_nil⟩
  by_cases h28 : box.length < 28
  · rw [eno (fun h => by have := h.1; omega)]
    have hh := pgHead_x hb hbl
    rw [show pgHeadR box = (0#64, 0#32, 20) from if_pos h28] at hh
    dsimp only at hh
    refine fn_x Tryz.func15 rfl rfl rfl Tryz.mixed (by kernel_rfl) ?_
    intro w0
    refine Ct.o ?_
    refine Zgb ?_
    refine Zh5 rfl ?_; intro b3
    refine Zh5 rfl ?_; intro b4
    first|refine Zhg (Za2 rfl) ?_|refine Zhg (Zas rfl) ?_
    first|refine Zhg (Zaz rfl) ?_|refine Zhg (Zas rfl) ?_
    refine Zg3 ?_
    refine Ct.o ?_
    refine Zgb ?_
    first|refine Zhg (Zaw rfl) ?_|refine Zhg (Zar rfl) ?_
    first|refine Zhg (Zcr rfl) ?_|refine Zhg (Zct) ?_|refine Zhg (Zcu rfl) ?_
    first|refine Zhg (Zmh (b := 4124) rfl rfl) ?_|refine Zhg (Zbp rfl rfl) ?_
    refine Zhn 14 rfl (decide_eq_false (hlong)) ?_
    refine Zg3 ?_
    refine Ct.o ?_
    refine Zgf rfl ?_
    refine Ct.o ?_
    refine Zgb ?_
    first|refine Zhg (Zaw rfl) ?_|refine Zhg (Zar rfl) ?_
    refine Zh8 rfl (by kernel_rfl) (hh) rfl qT ?_
    rintro _ _ ⟨rfl, rfl⟩
    refine Zg2 qA ?_
    first|refine Zhg (Zmm rfl) ?_|refine Zhg (Zar rfl) ?_
    refine Zhg (Zco rfl rfl) ?_
    refine Zhg (Zco rfl rfl) ?_
    refine Zhg (Zco rfl rfl) ?_
    first|refine Zhg (Zaz rfl) ?_|refine Zhg (Zas rfl) ?_
    first|refine Zhg (Zaz rfl) ?_|refine Zhg (Zas rfl) ?_
    first|refine Zhg (Zaz rfl) ?_|refine Zhg (Zas rfl) ?_
    refine Zg3 ?_
    refine Ct.o ?_
    refine Zgb ?_
    first|refine Zhg (Zat rfl) ?_|refine Zhg (Zar rfl) ?_
    first|refine Zhg (Zmk (b := 0) rfl rfl) ?_|refine Zhg (Zbs rfl rfl) ?_
    refine Zhm 22 rfl (decide_eq_true ((by decide))) ?_
    first|refine Zhg (Zau rfl) ?_|refine Zhg (Zar rfl) ?_
    first|refine Zhi rfl ?_|refine Zhj rfl ?_|(refine Zhh rfl ?_; (first|refine Zhr rfl qH qZ ?_|refine Zhq rfl qH qZ rfl ?_))
    first|refine Zhi rfl ?_|refine Zhj rfl ?_|(refine Zhh rfl ?_; (first|refine Zhg (Zat rfl) ?_|refine Zhg (Zar rfl) ?_))
    first|refine Zhi rfl ?_|refine Zhj rfl ?_|(refine Zhh rfl ?_; (first|refine Zhg (Zat rfl) ?_|refine Zhg (Zar rfl) ?_))
    first|refine Zhi rfl ?_|refine Zhj rfl ?_|(refine Zhh rfl ?_; (first|refine Zhg (Zl8 rfl) ?_|refine Zhg (Zce rfl) ?_))
    first|refine Zhi rfl ?_|refine Zhj rfl ?_|(refine Zhh rfl ?_; (refine Zhp rfl qH rfl ?_))
    first|refine Zhi rfl ?_|refine Zhj rfl ?_|(refine Zhh rfl ?_; (first|refine Zhg (Zl8 rfl) ?_|refine Zhg (Zce rfl) ?_))
    first|refine Zhi rfl ?_|refine Zhj rfl ?_|(refine Zhh rfl ?_; (refine Zhp rfl qH rfl ?_))
    first|refine Zhi rfl ?_|refine Zhj rfl ?_|(refine Zhh rfl ?_; (refine Zhg (Zdm (cs := #[.int .u64 _, .int .u32 _, .int .u32 _, .int .u32 _]) rfl) ?_))
    first|refine Zhi rfl ?_|refine Zhj rfl ?_|(refine Zhh rfl ?_; (refine Zhg (pv_neq_UNKNOWN_struct) ?_))
    first|refine Zhg (Zdz rfl rfl) ?_|refine Zhg (Zd0 rfl rfl) ?_|refine Zhg (Za8 rfl rfl) ?_|refine Zhg (Za9 rfl rfl) ?_|refine Zhg (Za6 rfl rfl) ?_|refine Zhg (Za7 rfl rfl) ?_
    refine Zg3 ?_
    refine Ct.o ?_
    refine Zge rfl ?_
    refine Ct.o ?_
    refine Zgb ?_
    first|refine Zhg (Za2 rfl) ?_|refine Zhg (Zas rfl) ?_
    first|refine Zhg (Zaz rfl) ?_|refine Zhg (Zas rfl) ?_
    refine Zg3 ?_
    refine Ct.o ?_
    refine rx2 (Zhc rfl (Zg9 rfl (Zg7))) ?_
    exact ⟨_, ⟨none, 0, rfl, rfl⟩, (Imp.arr (N := L) qV).trans Imp.own_nil⟩
  have hh := pgHead_x hb hbl
  rw [show pgHeadR box = (lowB 64 (box.take 8), lowB 32 ((box.drop 8).take 4), 0) from if_neg h28] at hh
  dsimp only at hh
  have hhi := head_is p box (by omega)
  generalize lowB 64 (box.take 8) = hr at hh hhi
  generalize lowB 32 ((box.drop 8).take 4) = hc at hh hhi
  by_cases hpl : p = ⟨hr, hc, p.page, p.version⟩
  · have hfit : pgFits p box := ⟨by omega, by omega, hhi.2 (by rw [hpl]; exact ⟨rfl, rfl⟩)⟩
    refine Con.get (fun w0 w F H => hb.some (by omega) H) ?_
    rintro ⟨b0, o0, rfl⟩
    have hml := moreB_len p
    have hdl : (box.drop 12).length = box.length - 12 := List.length_drop
    have hdb : Bs L (.slice (some ⟨b0, o0 + 12, none⟩) (box.length - 12) (bc - 12)) (box.drop 12) := bs_drop hb (by omega) (by omega)
    have ho := fun ma mc => open_x (L := own 5 1 (.slice ma (moreB p).length mc) (moreB p).length ((moreB p).map u8b) :: L) key (headB p) hk (headB_len p) (Bs.own .here) (hdb.imp Imp.tail) (by omega) (by omega)
    by_cases hr2 : rightB key (headB p) (moreB p) (box.drop 12) = true
    · have e : pgOpenR key p box = (textB key (headB p) (box.drop 12), 0) := if_pos ⟨hfit, hr2⟩
      have eo : openR key (headB p) (moreB p) (box.drop 12) = (textB key (headB p) (box.drop 12), 0) := by unfold openR; rw [if_neg (by omega), if_neg (by omega), if_pos hr2]
      rw [e]
      rw [eo] at ho
      dsimp only at ho
      refine fn_x Tryz.func15 rfl rfl rfl Tryz.mixed (by kernel_rfl) ?_
      intro w0
      refine Ct.o ?_
      refine Zgb ?_
      refine Zh5 rfl ?_; intro b3
      refine Zh5 rfl ?_; intro b4
      first|refine Zhg (Za2 rfl) ?_|refine Zhg (Zas rfl) ?_
      first|refine Zhg (Zaz rfl) ?_|refine Zhg (Zas rfl) ?_
      refine Zg3 ?_
      refine Ct.o ?_
      refine Zgb ?_
      first|refine Zhg (Zaw rfl) ?_|refine Zhg (Zar rfl) ?_
      first|refine Zhg (Zcr rfl) ?_|refine Zhg (Zct) ?_|refine Zhg (Zcu rfl) ?_
      first|refine Zhg (Zmh (b := 4124) rfl rfl) ?_|refine Zhg (Zbp rfl rfl) ?_
      refine Zhn 14 rfl (decide_eq_false (hlong)) ?_
      refine Zg3 ?_
      refine Ct.o ?_
      refine Zgf rfl ?_
      refine Ct.o ?_
      refine Zgb ?_
      first|refine Zhg (Zaw rfl) ?_|refine Zhg (Zar rfl) ?_
      refine Zh8 rfl (by kernel_rfl) (hh) rfl qT ?_
      rintro _ _ ⟨rfl, rfl⟩
      refine Zg2 qA ?_
      first|refine Zhg (Zmm rfl) ?_|refine Zhg (Zar rfl) ?_
      refine Zhg (Zco rfl rfl) ?_
      refine Zhg (Zco rfl rfl) ?_
      refine Zhg (Zco rfl rfl) ?_
      first|refine Zhg (Zaz rfl) ?_|refine Zhg (Zas rfl) ?_
      first|refine Zhg (Zaz rfl) ?_|refine Zhg (Zas rfl) ?_
      first|refine Zhg (Zaz rfl) ?_|refine Zhg (Zas rfl) ?_
      refine Zg3 ?_
      refine Ct.o ?_
      refine Zgb ?_
      first|refine Zhg (Zat rfl) ?_|refine Zhg (Zar rfl) ?_
      first|refine Zhg (Zmk (b := 0) rfl rfl) ?_|refine Zhg (Zbs rfl rfl) ?_
      refine Zhn 22 rfl (decide_eq_false ((fun h => h rfl))) ?_
      first|refine Zhg (Zau rfl) ?_|refine Zhg (Zar rfl) ?_
      first|refine Zhi rfl ?_|refine Zhj rfl ?_|(refine Zhh rfl ?_; (first|refine Zhr rfl qH qZ ?_|refine Zhq rfl qH qZ rfl ?_))
      first|refine Zhi rfl ?_|refine Zhj rfl ?_|(refine Zhh rfl ?_; (first|refine Zhg (Zat rfl) ?_|refine Zhg (Zar rfl) ?_))
      first|refine Zhi rfl ?_|refine Zhj rfl ?_|(refine Zhh rfl ?_; (first|refine Zhg (Zat rfl) ?_|refine Zhg (Zar rfl) ?_))
      first|refine Zhi rfl ?_|refine Zhj rfl ?_|(refine Zhh rfl ?_; (first|refine Zhg (Zl8 rfl) ?_|refine Zhg (Zce rfl) ?_))
      first|refine Zhi rfl ?_|refine Zhj rfl ?_|(refine Zhh rfl ?_; (refine Zhp rfl qH rfl ?_))
      first|refine Zhi rfl ?_|refine Zhj rfl ?_|(refine Zhh rfl ?_; (first|refine Zhg (Zl8 rfl) ?_|refine Zhg (Zce rfl) ?_))
      first|refine Zhi rfl ?_|refine Zhj rfl ?_|(refine Zhh rfl ?_; (refine Zhp rfl qH rfl ?_))
      first|refine Zhi rfl ?_|refine Zhj rfl ?_|(refine Zhh rfl ?_; (refine Zhg (Zdm (cs := #[.int .u64 _, .int .u32 _, .int .u32 _, .int .u32 _]) rfl) ?_))
      first|refine Zhi rfl ?_|refine Zhj rfl ?_|(refine Zhh rfl ?_; (refine Zhg (pv_neq_plc p ⟨hr, hc, p.page, p.version⟩ rfl rfl) ?_))
      refine Zhn 32 rfl (decide_eq_false ((fun h => h hpl))) ?_
      first|refine Zhg (Zdz rfl rfl) ?_|refine Zhg (Zd0 rfl rfl) ?_|refine Zhg (Za8 rfl rfl) ?_|refine Zhg (Za9 rfl rfl) ?_|refine Zhg (Za6 rfl rfl) ?_|refine Zhg (Za7 rfl rfl) ?_
      refine Zg3 ?_
      refine Ct.o ?_
      refine Zgf rfl ?_
      refine Ct.o ?_
      refine Zij ([cl b3 (key.map u8b).toArray 23, cl b4 (plc p) 27]) [1, 2, 3, 4] (.q 5 (.q 6 (.r 0 (.r 1 (.r 3 (.e 2 true (.e 4 true (.e 7 false (.q 8 (.q 9 (.q 10 (.q 11 (.q 12 .nil))))))))))))) (by kernel_rfl) (by kernel_rfl) (Imp.arr qV) ?_
      first|refine Zim rfl (Zaw rfl) ?_|refine Zim rfl (Zar rfl) ?_
      first|refine Zim rfl (Zna (l := 12) (h := box.length) rfl qB qB) ?_|refine Zim rfl (Zmz (l := 12) (h := box.length) rfl qB qB) ?_
      first|refine Ziy rfl rfl qH qZ ?_|refine Zix rfl rfl qH qZ rfl ?_
      first|refine Ziy rfl rfl qH qZ ?_|refine Zix rfl rfl qH qZ rfl ?_
      first|refine Ziy rfl rfl qH qZ ?_|refine Zix rfl rfl qH qZ rfl ?_
      refine Ziq rfl ?_
      refine Zh8 rfl (by kernel_rfl) (pghead_x p) rfl qT ?_
      rintro _ _ ⟨rfl, rfl⟩
      refine Zg2 qA ?_
      refine Zg3 ⟨fun _ => Imp.arr qV, ?_⟩
      refine Ziq rfl ?_
      refine Zh8 rfl (by kernel_rfl) (pgmore_x p) rfl qT ?_
      rintro _ _ ⟨ma, mc, rfl, rfl⟩
      refine Zg2 qA ?_
      refine Zg3 ⟨fun _ => Imp.arr qV, ?_⟩
      refine Ziq rfl ?_
      refine Zh8 rfl (by kernel_rfl) (ho ma mc) rfl qT ?_
      rintro _ _ ⟨xa, xc, rfl, rfl⟩
      refine Zg2 qA ?_
      refine Zg3 ⟨(fun hh => Bool.noConfusion hh), ?_⟩
      first|refine Zim rfl (Zmm rfl) ?_|refine Zim rfl (Zar rfl) ?_
      refine Zim rfl (Zco rfl rfl) ?_
      refine Zim rfl (Zco rfl rfl) ?_
      first|refine Zim rfl (Za2 rfl) ?_|refine Zim rfl (Zas rfl) ?_
      first|refine Zim rfl (Zaz rfl) ?_|refine Zim rfl (Zas rfl) ?_
      refine Zik ?_
      refine Ct.o ?_
      refine Zgb ?_
      first|refine Zhg (Zat rfl) ?_|refine Zhg (Zar rfl) ?_
      refine Zhg (Zm2 rfl) ?_
      refine Zh8 rfl (by kernel_rfl) (fails_x 0) rfl qT ?_
      rintro _ _ ⟨rfl, rfl⟩
      refine Zg2 qA ?_
      refine Zg3 ?_
      refine Ct.o ?_
      refine Zgf rfl ?_
      refine Ct.o ?_
      refine Zgb ?_
      first|refine Zhg (Zaw rfl) ?_|refine Zhg (Zar rfl) ?_
      first|refine Zhg (Za2 rfl) ?_|refine Zhg (Zas rfl) ?_
      first|refine Zhg (Zaz rfl) ?_|refine Zhg (Zas rfl) ?_
      refine Zg3 ?_
      refine Ct.o ?_
      refine rx2 (Zhc rfl (Zg9 rfl (Zg7))) ?_
      exact ⟨_, ⟨xa, xc, rfl, rfl⟩, qI⟩
    · have e : pgOpenR key p box = ([], 120) := if_neg (fun h => hr2 h.2)
      have eo : openR key (headB p) (moreB p) (box.drop 12) = ([], 70) := by unfold openR; rw [if_neg (by omega), if_neg (by omega), if_neg hr2]
      rw [e]
      rw [eo] at ho
      dsimp only at ho
      refine fn_x Tryz.func15 rfl rfl rfl Tryz.mixed (by kernel_rfl) ?_
      intro w0
      refine Ct.o ?_
      refine Zgb ?_
      refine Zh5 rfl ?_; intro b3
      refine Zh5 rfl ?_; intro b4
      first|refine Zhg (Za2 rfl) ?_|refine Zhg (Zas rfl) ?_
      first|refine Zhg (Zaz rfl) ?_|refine Zhg (Zas rfl) ?_
      refine Zg3 ?_
      refine Ct.o ?_
      refine Zgb ?_
      first|refine Zhg (Zaw rfl) ?_|refine Zhg (Zar rfl) ?_
      first|refine Zhg (Zcr rfl) ?_|refine Zhg (Zct) ?_|refine Zhg (Zcu rfl) ?_
      first|refine Zhg (Zmh (b := 4124) rfl rfl) ?_|refine Zhg (Zbp rfl rfl) ?_
      refine Zhn 14 rfl (decide_eq_false (hlong)) ?_
      refine Zg3 ?_
      refine Ct.o ?_
      refine Zgf rfl ?_
      refine Ct.o ?_
      refine Zgb ?_
      first|refine Zhg (Zaw rfl) ?_|refine Zhg (Zar rfl) ?_
      refine Zh8 rfl (by kernel_rfl) (hh) rfl qT ?_
      rintro _ _ ⟨rfl, rfl⟩
      refine Zg2 qA ?_
      first|refine Zhg (Zmm rfl) ?_|refine Zhg (Zar rfl) ?_
      refine Zhg (Zco rfl rfl) ?_
      refine Zhg (Zco rfl rfl) ?_
      refine Zhg (Zco rfl rfl) ?_
      first|refine Zhg (Zaz rfl) ?_|refine Zhg (Zas rfl) ?_
      first|refine Zhg (Zaz rfl) ?_|refine Zhg (Zas rfl) ?_
      first|refine Zhg (Zaz rfl) ?_|refine Zhg (Zas rfl) ?_
      refine Zg3 ?_
      refine Ct.o ?_
      refine Zgb ?_
      first|refine Zhg (Zat rfl) ?_|refine Zhg (Zar rfl) ?_
      first|refine Zhg (Zmk (b := 0) rfl rfl) ?_|refine Zhg (Zbs rfl rfl) ?_
      refine Zhn 22 rfl (decide_eq_false ((fun h => h rfl))) ?_
      first|refine Zhg (Zau rfl) ?_|refine Zhg (Zar rfl) ?_
      first|refine Zhi rfl ?_|refine Zhj rfl ?_|(refine Zhh rfl ?_; (first|refine Zhr rfl qH qZ ?_|refine Zhq rfl qH qZ rfl ?_))
      first|refine Zhi rfl ?_|refine Zhj rfl ?_|(refine Zhh rfl ?_; (first|refine Zhg (Zat rfl) ?_|refine Zhg (Zar rfl) ?_))
      first|refine Zhi rfl ?_|refine Zhj rfl ?_|(refine Zhh rfl ?_; (first|refine Zhg (Zat rfl) ?_|refine Zhg (Zar rfl) ?_))
      first|refine Zhi rfl ?_|refine Zhj rfl ?_|(refine Zhh rfl ?_; (first|refine Zhg (Zl8 rfl) ?_|refine Zhg (Zce rfl) ?_))
      first|refine Zhi rfl ?_|refine Zhj rfl ?_|(refine Zhh rfl ?_; (refine Zhp rfl qH rfl ?_))
      first|refine Zhi rfl ?_|refine Zhj rfl ?_|(refine Zhh rfl ?_; (first|refine Zhg (Zl8 rfl) ?_|refine Zhg (Zce rfl) ?_))
      first|refine Zhi rfl ?_|refine Zhj rfl ?_|(refine Zhh rfl ?_; (refine Zhp rfl qH rfl ?_))
      first|refine Zhi rfl ?_|refine Zhj rfl ?_|(refine Zhh rfl ?_; (refine Zhg (Zdm (cs := #[.int .u64 _, .int .u32 _, .int .u32 _, .int .u32 _]) rfl) ?_))
      first|refine Zhi rfl ?_|refine Zhj rfl ?_|(refine Zhh rfl ?_; (refine Zhg (pv_neq_plc p ⟨hr, hc, p.page, p.version⟩ rfl rfl) ?_))
      refine Zhn 32 rfl (decide_eq_false ((fun h => h hpl))) ?_
      first|refine Zhg (Zdz rfl rfl) ?_|refine Zhg (Zd0 rfl rfl) ?_|refine Zhg (Za8 rfl rfl) ?_|refine Zhg (Za9 rfl rfl) ?_|refine Zhg (Za6 rfl rfl) ?_|refine Zhg (Za7 rfl rfl) ?_
      refine Zg3 ?_
      refine Ct.o ?_
      refine Zgf rfl ?_
      refine Ct.o ?_
      refine Zij ([cl b3 (key.map u8b).toArray 23, cl b4 (plc p) 27]) [1, 2, 3, 4] (.q 5 (.q 6 (.r 0 (.r 1 (.r 3 (.e 2 true (.e 4 true (.e 7 false (.q 8 (.q 9 (.q 10 (.q 11 (.q 12 .nil))))))))))))) (by kernel_rfl) (by kernel_rfl) (Imp.arr qV) ?_
      first|refine Zim rfl (Zaw rfl) ?_|refine Zim rfl (Zar rfl) ?_
      first|refine Zim rfl (Zna (l := 12) (h := box.length) rfl qB qB) ?_|refine Zim rfl (Zmz (l := 12) (h := box.length) rfl qB qB) ?_
      first|refine Ziy rfl rfl qH qZ ?_|refine Zix rfl rfl qH qZ rfl ?_
      first|refine Ziy rfl rfl qH qZ ?_|refine Zix rfl rfl qH qZ rfl ?_
      first|refine Ziy rfl rfl qH qZ ?_|refine Zix rfl rfl qH qZ rfl ?_
      refine Ziq rfl ?_
      refine Zh8 rfl (by kernel_rfl) (pghead_x p) rfl qT ?_
      rintro _ _ ⟨rfl, rfl⟩
      refine Zg2 qA ?_
      refine Zg3 ⟨fun _ => Imp.arr qV, ?_⟩
      refine Ziq rfl ?_
      refine Zh8 rfl (by kernel_rfl) (pgmore_x p) rfl qT ?_
      rintro _ _ ⟨ma, mc, rfl, rfl⟩
      refine Zg2 qA ?_
      refine Zg3 ⟨fun _ => Imp.arr qV, ?_⟩
      refine Ziq rfl ?_
      refine Zh8 rfl (by kernel_rfl) (ho ma mc) rfl qT ?_
      rintro _ _ ⟨xa, xc, rfl, rfl⟩
      refine Zg2 qA ?_
      refine Zg3 ⟨(fun hh => Bool.noConfusion hh), ?_⟩
      first|refine Zim rfl (Zmm rfl) ?_|refine Zim rfl (Zar rfl) ?_
      refine Zim rfl (Zco rfl rfl) ?_
      refine Zim rfl (Zco rfl rfl) ?_
      first|refine Zim rfl (Za2 rfl) ?_|refine Zim rfl (Zas rfl) ?_
      first|refine Zim rfl (Zaz rfl) ?_|refine Zim rfl (Zas rfl) ?_
      refine Zik ?_
      refine Ct.o ?_
      refine Zgb ?_
      first|refine Zhg (Zat rfl) ?_|refine Zhg (Zar rfl) ?_
      refine Zhg (Zm2 rfl) ?_
      refine Zh8 rfl (by kernel_rfl) (fails_x 70) rfl qT ?_
      rintro _ _ ⟨rfl, rfl⟩
      refine Zg2 qA ?_
      refine Zg3 ?_
      refine Ct.o ?_
      refine Zge rfl ?_
      refine Ct.o ?_
      refine Zgb ?_
      first|refine Zhg (Za2 rfl) ?_|refine Zhg (Zas rfl) ?_
      first|refine Zhg (Zaz rfl) ?_|refine Zhg (Zas rfl) ?_
      refine Zg3 ?_
      refine Ct.o ?_
      refine rx2 (Zhc rfl (Zg9 rfl (Zg7))) ?_
      exact ⟨_, ⟨none, 0, rfl, rfl⟩, (Imp.arr (N := L) qV).trans Imp.own_nil⟩
  · rw [eno (fun h => hpl (by
      obtain ⟨h1, h2⟩ := hhi.1 h.2.2
      rw [h1, h2]))]
    refine fn_x Tryz.func15 rfl rfl rfl Tryz.mixed (by kernel_rfl) ?_
    intro w0
    refine Ct.o ?_
    refine Zgb ?_
    refine Zh5 rfl ?_; intro b3
    refine Zh5 rfl ?_; intro b4
    first|refine Zhg (Za2 rfl) ?_|refine Zhg (Zas rfl) ?_
    first|refine Zhg (Zaz rfl) ?_|refine Zhg (Zas rfl) ?_
    refine Zg3 ?_
    refine Ct.o ?_
    refine Zgb ?_
    first|refine Zhg (Zaw rfl) ?_|refine Zhg (Zar rfl) ?_
    first|refine Zhg (Zcr rfl) ?_|refine Zhg (Zct) ?_|refine Zhg (Zcu rfl) ?_
    first|refine Zhg (Zmh (b := 4124) rfl rfl) ?_|refine Zhg (Zbp rfl rfl) ?_
    refine Zhn 14 rfl (decide_eq_false (hlong)) ?_
    refine Zg3 ?_
    refine Ct.o ?_
    refine Zgf rfl ?_
    refine Ct.o ?_
    refine Zgb ?_
    first|refine Zhg (Zaw rfl) ?_|refine Zhg (Zar rfl) ?_
    refine Zh8 rfl (by kernel_rfl) (hh) rfl qT ?_
    rintro _ _ ⟨rfl, rfl⟩
    refine Zg2 qA ?_
    first|refine Zhg (Zmm rfl) ?_|refine Zhg (Zar rfl) ?_
    refine Zhg (Zco rfl rfl) ?_
    refine Zhg (Zco rfl rfl) ?_
    refine Zhg (Zco rfl rfl) ?_
    first|refine Zhg (Zaz rfl) ?_|refine Zhg (Zas rfl) ?_
    first|refine Zhg (Zaz rfl) ?_|refine Zhg (Zas rfl) ?_
    first|refine Zhg (Zaz rfl) ?_|refine Zhg (Zas rfl) ?_
    refine Zg3 ?_
    refine Ct.o ?_
    refine Zgb ?_
    first|refine Zhg (Zat rfl) ?_|refine Zhg (Zar rfl) ?_
    first|refine Zhg (Zmk (b := 0) rfl rfl) ?_|refine Zhg (Zbs rfl rfl) ?_
    refine Zhn 22 rfl (decide_eq_false ((fun h => h rfl))) ?_
    first|refine Zhg (Zau rfl) ?_|refine Zhg (Zar rfl) ?_
    first|refine Zhi rfl ?_|refine Zhj rfl ?_|(refine Zhh rfl ?_; (first|refine Zhr rfl qH qZ ?_|refine Zhq rfl qH qZ rfl ?_))
    first|refine Zhi rfl ?_|refine Zhj rfl ?_|(refine Zhh rfl ?_; (first|refine Zhg (Zat rfl) ?_|refine Zhg (Zar rfl) ?_))
    first|refine Zhi rfl ?_|refine Zhj rfl ?_|(refine Zhh rfl ?_; (first|refine Zhg (Zat rfl) ?_|refine Zhg (Zar rfl) ?_))
    first|refine Zhi rfl ?_|refine Zhj rfl ?_|(refine Zhh rfl ?_; (first|refine Zhg (Zl8 rfl) ?_|refine Zhg (Zce rfl) ?_))
    first|refine Zhi rfl ?_|refine Zhj rfl ?_|(refine Zhh rfl ?_; (refine Zhp rfl qH rfl ?_))
    first|refine Zhi rfl ?_|refine Zhj rfl ?_|(refine Zhh rfl ?_; (first|refine Zhg (Zl8 rfl) ?_|refine Zhg (Zce rfl) ?_))
    first|refine Zhi rfl ?_|refine Zhj rfl ?_|(refine Zhh rfl ?_; (refine Zhp rfl qH rfl ?_))
    first|refine Zhi rfl ?_|refine Zhj rfl ?_|(refine Zhh rfl ?_; (refine Zhg (Zdm (cs := #[.int .u64 _, .int .u32 _, .int .u32 _, .int .u32 _]) rfl) ?_))
    first|refine Zhi rfl ?_|refine Zhj rfl ?_|(refine Zhh rfl ?_; (refine Zhg (pv_neq_plc p ⟨hr, hc, p.page, p.version⟩ rfl rfl) ?_))
    refine Zhm 32 rfl (decide_eq_true (hpl)) ?_
    first|refine Zhg (Zdz rfl rfl) ?_|refine Zhg (Zd0 rfl rfl) ?_|refine Zhg (Za8 rfl rfl) ?_|refine Zhg (Za9 rfl rfl) ?_|refine Zhg (Za6 rfl rfl) ?_|refine Zhg (Za7 rfl rfl) ?_
    refine Zg3 ?_
    refine Ct.o ?_
    refine Zge rfl ?_
    refine Ct.o ?_
    refine Zgb ?_
    first|refine Zhg (Za2 rfl) ?_|refine Zhg (Zas rfl) ?_
    first|refine Zhg (Zaz rfl) ?_|refine Zhg (Zas rfl) ?_
    refine Zg3 ?_
    refine Ct.o ?_
    refine rx2 (Zhc rfl (Zg9 rfl (Zg7))) ?_
    exact ⟨_, ⟨none, 0, rfl, rfl⟩, (Imp.arr (N := L) qV).trans Imp.own_nil⟩
end Go.Sl
