/- Parts of the proof. -/
import Derived.Test.YtkifhflakdkemaaGreatLawSorterBreaksM0
import Derived.Test.YtkifhflakdkemaaGreatLawSorterBreaksM1
import Derived.Test.YtkifhflakdkemaaGreatLawSorterBreaksM2
import Derived.RangeFuncRecord
import Derived.RangeFuncLeaves
set_option maxHeartbeats 4000000
set_option maxRecDepth 10000
set_option linter.unusedVariables false
set_option linter.unusedSimpArgs false
namespace Go.Sl
open Go Go.Proofs
attribute [local irreducible] pt old pur ex all den denOps denS xOps xC cX CX xthen xblk xcut xloop xng retX resX Calls PV Rd Con
theorem new_c (key : List Byte) (hk : key.length = 32) : Con Tryz.prog 226 [.agg (key.map u8b).toArray] [] (fun v M => ∃ p, v = .pointer (some ⟨p, 0, none⟩) ∧ M = [cl p (pc (newS key)) 320]) := by
  refine fn_y Tryz.func226 Tryz.mixed ?_
  intro w0
  refine Y1 ?_
  refine Zh5 rfl ?_; intro b1
  refine Y3 ?_
  refine Zhg (Zdm (cs := #[u64b 0#64, u64b 0#64, u64b 0#64, u64b 0#64, u64b 0#64, u64b 0#64, u64b 0#64, u8b 0#8, u8b 0#8, u8b 0#8, u8b 0#8, u8b 0#8, u8b 0#8, u8b 0#8, u8b 0#8, u8b 0#8, u8b 0#8, u8b 0#8, u8b 0#8, u8b 0#8, u8b 0#8, u8b 0#8, u8b 0#8, .int .i64 0]) (by kernel_rfl)) ?_
  refine Zh5 rfl ?_; intro b5
  refine V2 ?_
  refine Zij (_) [] (.q 0 (.q 1 (.q 2 (.q 6 (.q 7 (.r 3 (.e 4 false (.q 5 (.q 8 (.e 9 false .nil)))))))))) (by kernel_rfl) (by kernel_rfl) (Imp.refl _) ?_
  refine W1 ?_
  refine Zim rfl (Zmy (h := 8) rfl rfl) ?_
  refine Zim rfl (Zl9 rfl) ?_
  refine W2 ?_
  refine Zix (n := 8) rfl rfl qH qZ (ext_map _ _ _) ?_
  refine Ziq rfl ?_
  refine Zor (c := word_c (List.take 8 key) (by simp; omega)) (k := ?_)
  rintro _ _ ⟨rfl, rfl⟩
  refine Y1 ?_
  refine Zg3 ⟨(fun hh => Bool.noConfusion hh), ?_⟩
  refine Zim rfl (Zlf (y := 1152921487695413247#64) rfl rfl) ?_
  first|refine Zim rfl (Zl5 (n := 0) rfl rfl) ?_|refine Zim rfl (Zl3 (n := 0) rfl rfl) ?_
  refine Ziq rfl ?_
  refine Y1 ?_
  refine Zg3 ⟨(fun hh => Bool.noConfusion hh), ?_⟩
  refine Zik ?_
  refine Ct.o ?_
  refine Zij (_) [] (.q 0 (.q 1 (.q 2 (.q 6 (.q 7 (.r 3 (.e 4 false (.q 5 (.q 8 (.e 9 false .nil)))))))))) (by kernel_rfl) (by kernel_rfl) (Imp.refl _) ?_
  refine W1 ?_
  refine Zim rfl (Zmx (l := 8) (h := 16) rfl rfl rfl) ?_
  refine Zim rfl (Zl9 rfl) ?_
  refine W2 ?_
  refine Zix (n := 8) rfl rfl qH qZ (ext_map _ _ _) ?_
  refine Ziq rfl ?_
  refine Zor (c := word_c ((key.drop 8).take 8) (by simp; omega)) (k := ?_)
  rintro _ _ ⟨rfl, rfl⟩
  refine Y1 ?_
  refine Zg3 ⟨(fun hh => Bool.noConfusion hh), ?_⟩
  refine Zim rfl (Zlf (y := 1152921487695413244#64) rfl rfl) ?_
  first|refine Zim rfl (Zl5 (n := 1) rfl rfl) ?_|refine Zim rfl (Zl3 (n := 1) rfl rfl) ?_
  refine Ziq rfl ?_
  refine Y1 ?_
  refine Zg3 ⟨(fun hh => Bool.noConfusion hh), ?_⟩
  refine Zik ?_
  refine Ct.o ?_
  refine Zij (_) [] (.q 0 (.q 1 (.q 2 (.q 5 (.q 6 (.r 3 (.e 4 false (.q 7 (.e 8 false .nil))))))))) (by kernel_rfl) (by kernel_rfl) (Imp.refl _) ?_
  refine W1 ?_
  refine Zim rfl (Zmx (l := 16) (h := 24) rfl rfl rfl) ?_
  refine Zim rfl (Zl9 rfl) ?_
  refine W2 ?_
  refine Zix (n := 8) rfl rfl qH qZ (ext_map _ _ _) ?_
  refine Ziq rfl ?_
  refine Zor (c := word_c ((key.drop 16).take 8) (by simp; omega)) (k := ?_)
  rintro _ _ ⟨rfl, rfl⟩
  refine Y1 ?_
  refine Zg3 ⟨(fun hh => Bool.noConfusion hh), ?_⟩
  first|refine Zim rfl (Zl5 (n := 0) rfl rfl) ?_|refine Zim rfl (Zl3 (n := 0) rfl rfl) ?_
  refine Ziq rfl ?_
  refine Y1 ?_
  refine Zg3 ⟨(fun hh => Bool.noConfusion hh), ?_⟩
  refine Zik ?_
  refine Ct.o ?_
  refine Zij (_) [] (.q 0 (.q 1 (.q 2 (.q 5 (.q 6 (.r 3 (.e 4 false (.q 7 (.e 8 false .nil))))))))) (by kernel_rfl) (by kernel_rfl) (Imp.refl _) ?_
  refine W1 ?_
  refine Zim rfl (Zmx (l := 24) (h := 32) rfl rfl rfl) ?_
  refine Zim rfl (Zl9 rfl) ?_
  refine W2 ?_
  refine Zix (n := 8) rfl rfl qH qZ (ext_map _ _ _) ?_
  refine Ziq rfl ?_
  refine Zor (c := word_c ((key.drop 24).take 8) (by simp; omega)) (k := ?_)
  rintro _ _ ⟨rfl, rfl⟩
  refine Y1 ?_
  refine Zg3 ⟨(fun hh => Bool.noConfusion hh), ?_⟩
  first|refine Zim rfl (Zl5 (n := 1) rfl rfl) ?_|refine Zim rfl (Zl3 (n := 1) rfl rfl) ?_
  refine Ziq rfl ?_
  refine Y1 ?_
  refine Zg3 ⟨(fun hh => Bool.noConfusion hh), ?_⟩
  refine Zik ?_
  refine V4 ?_
  refine rx1 (Zhb rfl (Zg7)) ?_
  have e : (key.drop 24).take 8 = key.drop 24 := List.take_of_length_le (by simp; omega)
  rw [e]
  exact ⟨_, ⟨b5, rfl, rfl⟩, by exact Imp.arr (by repeat (first|exact Arr.nil|exact Arr.stop|refine Arr.cons (by repeat constructor) ?_|refine Arr.skip ?_))⟩
theorem take_c {p : Nat} (t : PolyS) (ht : t.rest.length = 16) (b : List Byte) (hb : b.length = 16) (top : BitVec 64) : Con Tryz.prog 245 [.pointer (some ⟨p, 0, none⟩), .agg (b.map u8b).toArray, u64b top] [cl p (pc t) 320]
    (fun v M => v = .tuple #[] ∧ M = [cl p (pc (setH t (takeW t.h t.r b top))) 320]) := by
  have hsz := pc_size ht
  refine fn_y Tryz.func245 Tryz.mixed ?_
  intro w0
  refine Y1 ?_
  refine Zh5 rfl ?_; intro b4
  refine Y5 ?_
  refine Zhq (n := 3) rfl qH qZ (pc_h t) ?_
  refine Zhz (cs := #[u64b 0#64, u64b 0#64, u64b 0#64]) rfl ?_; intro b6
  first|refine Zhy rfl rfl qR qZ qN qZ ?_|refine Zhx rfl rfl qR qZ qN qZ rfl ?_
  refine V4 ?_
  refine Zij (_) [4, 5] (.q 0 (.q 2 (.q 3 (.r 1 (.r 4 (.e 5 true (.q 6 (.q 7 (.q 8 (.q 9 (.q 10 (.e 11 false (.q 12 .nil))))))))))))) (by kernel_rfl) (by kernel_rfl) (Imp.refl _) ?_
  first|refine Zim rfl (Zl5 (n := 0) rfl rfl) ?_|refine Zim rfl (Zl3 (n := 0) rfl rfl) ?_
  refine Zim rfl (Zmy (h := 8) rfl rfl) ?_
  refine Zim rfl (Zl9 rfl) ?_
  refine W1 ?_
  refine Zix (n := 8) rfl rfl qH qZ (ext_map _ _ _) ?_
  refine Ziq rfl ?_
  refine Zor (c := word_c _ (by simp; omega)) (k := ?_)
  rintro _ _ ⟨rfl, rfl⟩
  refine Y1 ?_
  refine Zg3 ⟨fun _ => Imp.arr qV, ?_⟩
  refine Zim rfl (Zh9 rfl (ext_add64 _ _ 0#64 (by decide)) rfl) ?_
  refine W3 ?_
  first|refine Zim rfl (Zl5 (n := 0) rfl rfl) ?_|refine Zim rfl (Zl3 (n := 0) rfl rfl) ?_
  refine Ziq rfl ?_
  refine Y1 ?_
  refine Zg3 ⟨(fun hh => Bool.noConfusion hh), ?_⟩
  refine W2 ?_
  refine Ct.o ?_
  refine Zij (_) [4, 5] (.q 0 (.q 2 (.q 3 (.q 6 (.r 1 (.r 4 (.e 5 true (.q 7 (.q 8 (.q 9 (.q 10 (.q 11 (.e 12 false (.q 13 .nil)))))))))))))) (by kernel_rfl) (by kernel_rfl) (Imp.refl _) ?_
  first|refine Zim rfl (Zl5 (n := 1) rfl rfl) ?_|refine Zim rfl (Zl3 (n := 1) rfl rfl) ?_
  refine Zim rfl (Zmx (l := 8) (h := 16) rfl rfl rfl) ?_
  refine Zim rfl (Zl9 rfl) ?_
  refine W2 ?_
  refine Zix (n := 8) rfl rfl qH qZ (ext_map _ _ _) ?_
  refine Ziq rfl ?_
  refine Zor (c := word_c _ (by simp; omega)) (k := ?_)
  rintro _ _ ⟨rfl, rfl⟩
  refine Y1 ?_
  refine Zg3 ⟨fun _ => Imp.arr qV, ?_⟩
  refine Zim rfl (Zh9 rfl (ext_add64 _ _ _ (carry_le _ _ _ (by decide))) rfl) ?_
  refine W3 ?_
  first|refine Zim rfl (Zl5 (n := 1) rfl rfl) ?_|refine Zim rfl (Zl3 (n := 1) rfl rfl) ?_
  refine Ziq rfl ?_
  refine Y1 ?_
  refine Zg3 ⟨(fun hh => Bool.noConfusion hh), ?_⟩
  refine W2 ?_
  refine Y1 ?_
  first|refine Zhg (Zl5 (n := 2) rfl rfl) ?_|refine Zhg (Zl3 (n := 2) rfl rfl) ?_
  refine Y5 ?_
  first|refine Zhg (Zl5 (n := 2) rfl rfl) ?_|refine Zhg (Zl3 (n := 2) rfl rfl) ?_
  refine V2 ?_
  refine Zij (_) [5] (.q 0 (.q 2 (.q 3 (.q 4 (.r 1 (.r 5 (.e 6 false (.q 7 (.q 8 (.e 9 false .nil)))))))))) (by kernel_rfl) (by kernel_rfl) (Imp.refl _) ?_
  refine W5 ?_
  refine Zix (n := 2) rfl rfl qH qZ (pc_r t) ?_
  refine Ziq rfl ?_
  refine Zor (c := times_c (_, _, _) _) (k := ?_)
  rintro _ _ ⟨rfl, rfl⟩
  refine Y1 ?_
  refine Zg3 ⟨(fun hh => Bool.noConfusion hh), ?_⟩
  refine W2 ?_
  refine Ziq rfl ?_
  first|refine Zhy rfl rfl qR qZ qN qZ ?_|refine Zhx rfl rfl qR qZ qN qZ (pc_setH _ _) ?_
  refine Zg3 ⟨(fun hh => Bool.noConfusion hh), ?_⟩
  refine Zik ?_
  refine Ct.o ?_
  first|refine rx0 ?_|refine rx0n ?_
  have e : (b.drop 8).take (16 - 8) = b.drop 8 := List.take_of_length_le (by simp; omega)
  rw [e]
  exact ⟨_, ⟨rfl, rfl⟩, by exact Imp.arr (by repeat (first|exact Arr.nil|exact Arr.stop|refine Arr.cons (by repeat constructor) ?_|refine Arr.skip ?_))⟩
end Go.Sl
namespace Go.Sl
open Go Go.Proofs
attribute [local irreducible] pt old pur ex all den denOps denS xOps xC cX CX xthen xblk xcut xloop xng retX resX Calls PV Rd Con
attribute [local irreducible] pc writeS takeW full put1 setU setH
theorem setU_put1 (t : PolyS) (x : List Byte) : setU (setU (put1 t x) t.used) (t.used + x.length) = put1 t x := by unfold setU put1; rfl
theorem setU_used {t : PolyS} {n : Nat} (h : (setU t n).rest.length = 16) : (pc (setU t n))[23]? = some (.int .i64 n) := by
  rw [pc_used h]; unfold setU; rfl
theorem write_c {p : Nat} {L : List Asrt} (t : PolyS) (ht : PolyOk t) (b : List Byte) (a : Option Addr) (c : Nat) (hc : b.length ≤ c) (hcm : c ≤ 9223372036854775807) (hv : Rd L 1 (.slice a b.length c) b.length (b.map u8b)) :
    Con Tryz.prog 227 [.pointer (some ⟨p, 0, none⟩), .slice a b.length c] (cl p (pc t) 320 :: L)
      (fun v M => v = .tuple #[.int .i64 b.length, .nilIface] ∧ M = cl p (pc (writeS t b)) 320 :: L) := by
  refine fn_y Tryz.func227 Tryz.mixed ?_
  intro w0
  refine V13 ?_
  refine Zgo [(6, 7), (12, 49)] (by kernel_rfl)
    (fun s : Nat × Option Addr × Nat × Nat => s.2.2.2 = b.length - s.1 ∧ s.1 ≤ b.length ∧ b.length - s.1 ≤ s.2.2.1 ∧ Rd L 1 (.slice s.2.1 (b.length - s.1) s.2.2.1) (b.length - s.1) ((b.drop s.1).map u8b))
    (fun s => cl p (pc (writeS t (b.take s.1))) 320 :: L) (fun s => [(6, .slice s.2.1 s.2.2.2 s.2.2.1)]) (fun s => b.length - s.1) (0, a, c, b.length) ⟨rfl, Nat.zero_le _, hc, hv⟩ (by dsimp only; rw [writeS_zero]; exact Imp.refl _) ⟨rfl, trivial⟩ ?_
  rintro ⟨i, a, c, n⟩ u ⟨hn, hi, hc, hv⟩
  dsimp only at hn hi hc hv ⊢
  subst hn
  have hti : PolyOk (writeS t (b.take i)) := writeS_ok ht
  generalize hT : writeS t (b.take i) = T at hti
  have hu := hti.used
  have hsz := pc_size hti.rest
  refine V5 ?_
  refine Zgg rfl (fun hB => ?_) (fun hB => ?_)
  · obtain ⟨m, hm⟩ : ∃ m, m = min (b.length - i) (16 - T.used) := ⟨_, rfl⟩
    have hm0 : 0 < m := by omega
    obtain ⟨x, hx⟩ : ∃ x, x = (b.drop i).take m := ⟨_, rfl⟩
    have hxl : x.length = m := by rw [hx]; simp; omega
    have htot : b.take (i + m) = b.take i ++ x := by rw [hx, List.take_add]
    have hw : writeS t (b.take (i + m)) = full (put1 T x) := by rw [htot, writeS_append, hT, write_put hti (by omega)]
    have hcp : wr (pc T) (7 + T.used) (((b.drop i).map u8b).take (m * 1)) = pc (setU (put1 T x) T.used) := by
      rw [← pc_copy hti.rest (by omega), ← List.map_take, Nat.mul_one, ← hx]
    have hpr : (put1 T x).rest.length = 16 := put1_rest hti (by omega)
    have hpru : (setU (put1 T x) T.used).rest.length = 16 := by unfold setU; exact hpr
    have hsz2 : (pc (setU (put1 T x) T.used)).size = 24 := pc_size hpru
    have hsz3 : (pc (put1 T x)).size = 24 := pc_size hpr
    have hs1 : (pc (setU (put1 T x) T.used)).setIfInBounds 23 (.int .i64 ((T.used + m : Nat) : Int)) = pc (put1 T x) := by
      rw [pc_setUsed (t := setU (put1 T x) T.used) hpru (T.used + m), ← hxl, setU_put1]
    have hv2 : Rd L 1 (.slice (if c = m then a else a.map (·.add (m * 1))) (b.length - (i + m)) (c - m)) (b.length - (i + m)) ((b.drop (i + m)).map u8b) := by
      have := hv.cut (l := m) (by omega) hc
      rw [← List.map_drop, List.drop_drop] at this
      rwa [show b.length - (i + m) = b.length - i - m by omega]
    refine Ct.o ?_
    refine Zij (_) [] (.q 0 (.q 1 (.q 2 (.q 3 (.q 4 (.q 5 (.q 8 (.r 6 (.q 7 (.e 9 false (.q 10 .nil))))))))))) (by kernel_rfl) (by kernel_rfl) (Imp.refl _) ?_
    refine W7 ?_
    refine Ziv rfl rfl qH (pc_used hti.rest) ?_
    refine Zim rfl (Zmx (h := 16) rfl rfl rfl) ?_
    refine Ziq rfl ?_; refine Zib (c' := pc (setU (put1 T x) T.used)) rfl rfl (hv.imp Imp.tail) qR (by rw [hsz]; omega) (oneM_u8 _) (by rw [← hm]; exact hcp) ?_; refine Zg3 ⟨(fun hh => Bool.noConfusion hh), ?_⟩
    refine W2 ?_
    refine Ct.o ?_
    rw [← hm]
    refine Y4 ?_
    refine Zhp rfl qH (setU_used hpru) ?_
    refine Y4 ?_
    refine Zht rfl rfl qR qZ (hs1) ?_
    refine Y4 ?_
    refine Zhg (Zm1 (l := m) (h := b.length - i) rfl rfl rfl (by omega) (by omega)) ?_
    refine Y6 ?_
    refine Zhp rfl qH (pc_used hpr) ?_
    refine V2 ?_
    rw [show b.length - i - m = b.length - (i + m) by omega]
    refine Zgg rfl (fun hB2 => ?_) (fun hB2 => ?_)
    · have hprh : (setH (put1 T x) (takeW (put1 T x).h (put1 T x).r (put1 T x).rest 1#64)).rest.length = 16 := by unfold setH; exact hpr
      have hfull : full (put1 T x) = setU (setH (put1 T x) (takeW (put1 T x).h (put1 T x).r (put1 T x).rest 1#64)) 0 := by rw [full, if_pos hB2]
      have hsz4 : (pc (setH (put1 T x) (takeW (put1 T x).h (put1 T x).r (put1 T x).rest 1#64))).size = 24 := pc_size hprh
      have hs2 : (pc (setH (put1 T x) (takeW (put1 T x).h (put1 T x).r (put1 T x).rest 1#64))).setIfInBounds 23 (.int .i64 0) = pc (writeS t (b.take (i + m))) := by
        rw [hw, hfull]
        exact pc_setUsed hprh 0
      refine Y5 ?_
      refine Zhq (n := 16) rfl qH qZ (pc_rest hpr) ?_
      refine Zor (c := take_c _ hpr _ hpr 1#64) (k := ?_)
      rintro _ _ ⟨rfl, rfl⟩
      refine Y6 ?_
      refine Zht rfl rfl qR qZ (hs2) ?_
      refine V1 ?_
      exact Zgl (i + m, _, _, _) (by dsimp only; omega) ⟨rfl, by dsimp only; omega, by dsimp only; omega, hv2⟩ qI ⟨rfl, trivial⟩
    · have hw2 : writeS t (b.take (i + m)) = put1 T x := by rw [hw, full, if_neg hB2]
      rw [← hw2]
      refine Ct.o ?_
      exact Zgl (i + m, _, _, _) (by dsimp only; omega) ⟨rfl, by dsimp only; omega, by dsimp only; omega, hv2⟩ qI ⟨rfl, trivial⟩
  · have hie : i = b.length := by omega
    have hw : T = writeS t b := by rw [← hT, List.take_of_length_le (by omega)]
    refine V6 ?_
    refine rx2 (Zg9 rfl (Zg8 rfl (Zg7))) ?_
    rw [hw]
    exact ⟨_, ⟨rfl, rfl⟩, by exact Imp.arr (by repeat (first|exact Arr.nil|exact Arr.stop|refine Arr.cons (by repeat constructor) ?_|refine Arr.skip ?_))⟩
end Go.Sl
namespace Go.Sl
open Go Go.Proofs
attribute [local irreducible] pt old pur ex all den denOps denS xOps xC cX CX xthen xblk xcut xloop xng retX resX Calls PV Rd Con
attribute [local irreducible] pc writeS takeW full put1 setU setH
theorem sum_c {p : Nat} (t : PolyS) (ht : PolyOk t) : Con Tryz.prog 228 [.pointer (some ⟨p, 0, none⟩)] [cl p (pc t) 320] (fun v M => v = .agg ((sumS t).map u8b).toArray ∧ M = [cl p (pc t) 320]) := by
  have hr := ht.rest
  have hu := ht.used
  have hsz := pc_size hr
  refine fn_y Tryz.func228 Tryz.mixed ?_
  intro w0
  refine Y1 ?_
  refine Zhz (cs := ((List.replicate 16 0#8).map u8b).toArray) rfl ?_; intro b2
  refine Y10 ?_
  refine Zhz (cs := #[u64b 0#64, u64b 0#64, u64b 0#64, u64b 0#64, u64b 0#64, u64b 0#64, u64b 0#64, u8b 0#8, u8b 0#8, u8b 0#8, u8b 0#8, u8b 0#8, u8b 0#8, u8b 0#8, u8b 0#8, u8b 0#8, u8b 0#8, u8b 0#8, u8b 0#8, u8b 0#8, u8b 0#8, u8b 0#8, u8b 0#8, .int .i64 0]) rfl ?_; intro b3
  first|refine Zhy rfl rfl qR qZ (by first|rfl|exact oneM_u8 _|exact oneL_u8 _|exact pc_one _|(simp [oneC]; done)) qZ ?_|refine Zhx rfl rfl qR qZ (by first|rfl|exact oneM_u8 _|exact oneL_u8 _|exact pc_one _|(simp [oneC]; done)) qZ rfl ?_
  refine Y3 ?_
  refine Zhp rfl qH (pc_used hr) ?_
  refine V2 ?_
  refine Zgn [(4, 4), (22, 32)] (by kernel_rfl) (fun _ : Unit => True) (fun _ => [cl b3 (pc (finS t)) 320, cl b2 ((List.replicate 16 0#8).map u8b).toArray 266, cl p (pc t) 320]) (fun _ => []) ?_ ?_
  · refine Zgg rfl (fun hB => ?_) (fun hB => ?_)
    · refine Y1 ?_
      refine Zhz (cs := ((List.replicate 16 0#8).map u8b).toArray) rfl ?_; intro b4
      refine V1 ?_
      refine Zij (_) [] (.q 0 (.q 1 (.q 2 (.r 3 (.q 4 (.e 5 false .nil)))))) (by kernel_rfl) (by kernel_rfl) (Imp.refl _) ?_
      refine Zim rfl (Zmy (h := 16) rfl rfl) ?_
      refine W2 ?_
      refine Ziv rfl rfl qH (pc_used hr) ?_
      refine Zim rfl (Zmy (h := t.used) rfl rfl (by omega) (by omega)) ?_
      refine Ziq rfl ?_
      refine Zib rfl rfl (Rd.cl (xs := (t.rest.take t.used).map u8b) qH (by simp; omega) (by rw [hsz]; omega) (pc_restTake hr (by omega))) qR qZ (by first|rfl|exact oneM_u8 _|exact oneL_u8 _|exact pc_one _|(simp [oneC]; done)) ((by rw [List.take_of_length_le (by simp; omega)]; exact copy_last hr hu : _ = ((t.rest.take t.used ++ List.replicate (16 - t.used) 0#8).map u8b).toArray)) ?_
      refine Zg3 ⟨(fun hh => Bool.noConfusion hh), ?_⟩
      refine Zik ?_
      refine Y2 ?_
      refine Zhp rfl qH (pc_used hr) ?_
      refine Y1 ?_
      refine Zhs rfl (v := u8b 1#8) rfl rfl qR qZ (setL (f := u8b) (l := t.rest.take t.used ++ List.replicate (16 - t.used) 0#8)) ?_
      refine Y3 ?_
      refine Zor (c := take_c t hr (lastB t) (lastB_len hr (by omega)) 0#64) (k := ?_)
      rintro _ _ ⟨rfl, rfl⟩
      refine V2 ?_
      have e : finS t = setH t (takeW t.h t.r (lastB t) 0#64) := by rw [finS, if_pos hB]
      exact Zgk () trivial (by rw [e]; exact Imp.arr (by repeat (first|exact Arr.nil|exact Arr.stop|refine Arr.cons (by repeat constructor) ?_|refine Arr.skip ?_))) trivial
    · refine Ct.o ?_
      have e : finS t = t := by rw [finS, if_neg hB]
      exact Zgk () trivial (by rw [e]; exact Imp.arr (by repeat (first|exact Arr.nil|exact Arr.stop|refine Arr.cons (by repeat constructor) ?_|refine Arr.skip ?_))) trivial
  rintro _ u _
  have hszf : (pc (finS t)).size = 24 := pc_size (by rw [finS_rest]; exact hr)
  refine Y2 ?_
  refine Zhq (n := 3) rfl qH qZ (pc_h _) ?_
  refine Zhz (cs := #[u64b 0#64, u64b 0#64, u64b 0#64]) rfl ?_; intro b5
  first|refine Zhy rfl rfl qR qZ (by first|rfl|exact oneM_u8 _|exact oneL_u8 _|exact pc_one _|(simp [oneC]; done)) qZ ?_|refine Zhx rfl rfl qR qZ (by first|rfl|exact oneM_u8 _|exact oneL_u8 _|exact pc_one _|(simp [oneC]; done)) qZ rfl ?_
  refine Y2 ?_
  first|refine Zhg (Zl5 (n := 0) rfl rfl) ?_|refine Zhg (Zl3 (n := 0) rfl rfl) ?_
  refine Y1 ?_
  refine Zhg (Zh9 rfl (ext_sub64 _ 18446744073709551611#64 0#64 (by decide)) rfl) ?_
  refine Y7 ?_
  first|refine Zhg (Zl5 (n := 1) rfl rfl) ?_|refine Zhg (Zl3 (n := 1) rfl rfl) ?_
  refine Y2 ?_
  refine Zhg (Zh9 rfl (ext_sub64 _ 18446744073709551615#64 _ (borrow_le _ _ _)) rfl) ?_
  refine Y7 ?_
  first|refine Zhg (Zl5 (n := 2) rfl rfl) ?_|refine Zhg (Zl3 (n := 2) rfl rfl) ?_
  refine Y2 ?_
  refine Zhg (Zh9 rfl (ext_sub64 _ 3#64 _ (borrow_le _ _ _)) rfl) ?_
  refine Y7 ?_
  refine Zhg (Zlm rfl) ?_
  refine Y3 ?_
  first|refine Zhg (Zl5 (n := 0) rfl rfl) ?_|refine Zhg (Zl3 (n := 0) rfl rfl) ?_
  refine Y5 ?_
  refine Zhg (Zli rfl rfl) ?_
  refine Y1 ?_
  first|refine Zhg (Zl5 (n := 0) rfl rfl) ?_|refine Zhg (Zl3 (n := 0) rfl rfl) ?_
  refine Y3 ?_
  first|refine Zhg (Zl5 (n := 1) rfl rfl) ?_|refine Zhg (Zl3 (n := 1) rfl rfl) ?_
  refine Y5 ?_
  refine Zhg (Zli rfl rfl) ?_
  refine Y1 ?_
  first|refine Zhg (Zl5 (n := 1) rfl rfl) ?_|refine Zhg (Zl3 (n := 1) rfl rfl) ?_
  refine Y6 ?_
  first|refine Zhg (Zl5 (n := 0) rfl rfl) ?_|refine Zhg (Zl3 (n := 0) rfl rfl) ?_
  refine Y2 ?_
  first|refine Zhg (Zl5 (n := 0) rfl rfl) ?_|refine Zhg (Zl3 (n := 0) rfl rfl) ?_
  refine Zhp rfl qH (pc_s0 _) ?_
  refine Zhg (Zh9 rfl (ext_add64 _ _ 0#64 (by decide)) rfl) ?_
  refine Y3 ?_
  first|refine Zhg (Zl5 (n := 0) rfl rfl) ?_|refine Zhg (Zl3 (n := 0) rfl rfl) ?_
  refine Y4 ?_
  first|refine Zhg (Zl5 (n := 1) rfl rfl) ?_|refine Zhg (Zl3 (n := 1) rfl rfl) ?_
  refine Y2 ?_
  first|refine Zhg (Zl5 (n := 1) rfl rfl) ?_|refine Zhg (Zl3 (n := 1) rfl rfl) ?_
  refine Zhp rfl qH (pc_s1 _) ?_
  refine Y1 ?_
  refine Zhg (Zh9 rfl (ext_add64 _ _ _ (carry_le _ _ _ (by decide))) rfl) ?_
  refine Y3 ?_
  first|refine Zhg (Zl5 (n := 1) rfl rfl) ?_|refine Zhg (Zl3 (n := 1) rfl rfl) ?_
  refine Y3 ?_
  refine Zhz (cs := ((List.replicate 16 0#8).map u8b).toArray) rfl ?_; intro b11
  refine V4 ?_
  refine Zgo [(12, 12), (96, 110)] (by kernel_rfl) (fun i : Nat => i ≤ 16)
    (fun i => [cl b11 ((upto (outB (outW (finS t).h (finS t).s)) i).map u8b).toArray 266, cl b5 (hA ((outW (finS t).h (finS t).s).1, (outW (finS t).h (finS t).s).2, (finS t).h.2.2)) 318, cl b2 ((List.replicate 16 0#8).map u8b).toArray 266, cl p (pc t) 320])
    (fun i => [(96, .int .i64 (i : Int))]) (fun i => 16 - i) 0 (by omega) (by rw [upto_zero]; exact Imp.arr (by repeat (first|exact Arr.nil|exact Arr.stop|refine Arr.cons (by repeat constructor) ?_|refine Arr.skip ?_))) ⟨rfl, trivial⟩ ?_
  intro i u hi
  try dsimp only at hi
  try dsimp only
  generalize hO : outW (finS t).h (finS t).s = O
  have hul : (upto (outB O) i).length = 16 := by simp [upto]
  refine V3 ?_
  refine Zgg rfl (fun hB => ?_) (fun hB => ?_)
  · have hld : (hA (O.1, O.2, (finS t).h.2.2))[i / 8]? = some (u64b (if i / 8 = 0 then O.1 else O.2)) := by
      have : i / 8 = 0 ∨ i / 8 = 1 := by omega
      rcases this with h|h <;> rw [h] <;> rfl
    refine Y9 ?_
    refine Zhp rfl qH (hld) ?_
    refine Y2 ?_
    first|refine Zhg (Zmc (a := 8) rfl rfl) ?_|refine Zhg (Zbi rfl rfl) ?_
    refine Zhg (Zlk rfl rfl) ?_
    refine Zhg (Zlx rfl) ?_
    refine Y1 ?_
    refine Zht rfl rfl qR qZ (setL (f := u8b) (l := upto (outB O) i)) ?_
    refine V5 ?_
    refine Zgl (i + 1) qO qO ?_ ⟨rfl, trivial⟩
    try dsimp only
    rw [← upto_set]
    exact Imp.arr (by repeat (first|exact Arr.nil|exact Arr.stop|refine Arr.cons (by repeat constructor) ?_|refine Arr.skip ?_))
  · have hi16 : i = 16 := by omega
    subst hi16
    rw [upto_end]
    refine Y2 ?_
    first|refine Zhy rfl rfl qR qZ (by first|rfl|exact oneM_u8 _|exact oneL_u8 _|exact pc_one _|(simp [oneC]; done)) qZ ?_|refine Zhx rfl rfl qR qZ (by first|rfl|exact oneM_u8 _|exact oneL_u8 _|exact pc_one _|(simp [oneC]; done)) qZ rfl ?_
    refine V1 ?_
    refine rx1 (Zhe rfl qH qZ (Zg7)) ?_
    rw [← hO]
    exact ⟨_, ⟨rfl, rfl⟩, by exact Imp.arr (by repeat (first|exact Arr.nil|exact Arr.stop|refine Arr.cons (by repeat constructor) ?_|refine Arr.skip ?_))⟩
end Go.Sl
namespace Go.Sl
open Go Go.Proofs
attribute [local irreducible] pt old pur ex all den denOps denS xOps xC cX CX xthen xblk xcut xloop xng retX resX Calls PV Rd Con
attribute [local irreducible] pc writeS takeW full put1 setU setH code sumS blockB ksB xorB
theorem writeB_x {p : Nat} {L : List Asrt} (t : PolyS) (ht : PolyOk t) {v : Value} {l : List Byte} (h : Bs L v l) :
    Con Tryz.prog 227 [.pointer (some ⟨p, 0, none⟩), v] (cl p (pc t) 320 :: L) (fun r M => r = .tuple #[.int .i64 l.length, .nilIface] ∧ cl p (pc (writeS t l)) 320 :: L = M) := by
  refine Con.get (fun w0 w F H => (h.imp Imp.tail).sh _ _ _ H) ?_
  rintro ⟨a, c, rfl, h1, h2⟩
  refine (write_c (L := L) t ht l a c h1 h2 h.rd).mono ?_
  rintro v M ⟨rfl, rfl⟩
  exact ⟨_, Imp.refl _, rfl, rfl⟩
def msgB (more cover : List Byte) (i : Nat) : List Byte := if i = 0 then [] else if i = 1 then more ++ padB more else (more ++ padB more) ++ (cover ++ padB cover)
theorem msgB_succ (more cover : List Byte) (i : Nat) (h : i < 2) : msgB more cover (i + 1) = (msgB more cover i ++ (if i = 0 then more else cover)) ++ padB (if i = 0 then more else cover) := by
  match i, h with
  | 0, _ => simp [msgB]
  | 1, _ => simp [msgB]
theorem key_cp (b : List Byte) (h : b.length = 64) : wr (((List.replicate 32 0#8).map u8b).toArray) 0 ((b.map u8b).take (min 64 32 * 1)) = ((b.take 32).map u8b).toArray := by
  rw [show min 64 32 * 1 = 32 from rfl, ← List.map_take]
  have := wr_all (((b.take 32).map u8b).toArray) (((List.replicate 32 0#8).map u8b).toArray) (by simp [h])
  exact this
theorem vouch_x {L : List Asrt} (key nonce : List Byte) (hk : key.length = 32) (hn : nonce.length = 12) {vm vc : Value} {more cover : List Byte} (hm : Bs L vm more) (hc : Bs L vc cover) (hml : more.length ≤ 140737488351232) (hcl : cover.length ≤ 140737488351232) :
    Con Tryz.prog 205 [.agg (key.map u8b).toArray, .agg (nonce.map u8b).toArray, vm, vc] L (fun r M => r = .agg ((vouchB key nonce more cover).map u8b).toArray ∧ L = M) := by
  refine Con.get (fun w0 w F H => hm.sh _ _ _ H) ?_
  rintro ⟨ma, mc, rfl, hmc, hmcm⟩
  refine Con.get (fun w0 w F H => hc.sh _ _ _ H) ?_
  rintro ⟨ca, cc, rfl, hcc, hccm⟩
  have hbl := blockB_len key 0#32 nonce
  have hol := oneKey_len key nonce
  have hone : (blockB key 0#32 nonce).take 32 = oneKey key nonce := rfl
  refine fn_y Tryz.func205 Tryz.mixed ?_
  intro w0
  refine Y1 ?_
  refine Zh5 rfl ?_; intro b4
  refine Zh5 rfl ?_; intro b5
  refine Zhz (cs := ((List.replicate 16 0#8).map u8b).toArray) rfl ?_; intro b8
  refine Y2 ?_
  refine Zhz (cs := ((List.replicate 32 0#8).map u8b).toArray) rfl ?_; intro b9
  refine Y4 ?_
  refine Zor (c := block_x key 0#32 nonce hk hn) (k := ?_)
  rintro _ _ ⟨rfl, rfl⟩
  refine Y1 ?_
  refine Zhz (cs := ((List.replicate 64 0#8).map u8b).toArray) rfl ?_; intro b10
  first|refine Zhy rfl rfl qR qZ (by first|rfl|exact oneM_u8 _|exact oneL_u8 _|exact pc_one _|(simp [oneC]; done)) qZ ?_|refine Zhx rfl rfl qR qZ (by first|rfl|exact oneM_u8 _|exact oneL_u8 _|exact pc_one _|(simp [oneC]; done)) qZ rfl ?_
  refine V1 ?_
  refine Zij ([]) [] (.q 0 (.q 1 (.e 2 false .nil))) (by kernel_rfl) (by kernel_rfl) (Imp.arr Arr.stop) ?_
  refine Zim rfl (Zmy (h := 32) rfl rfl) ?_
  refine Zim rfl (Zmy (h := 64) rfl rfl) ?_
  refine Ziq rfl ?_
  refine Zib rfl rfl (Rd.cl (o := 0) (xs := (blockB key 0#32 nonce).map u8b) qH (by simp [hbl]) (by simp [hbl]) (by simp; exact List.take_of_length_le (by simp [hbl]))) qR qZ (by first|rfl|exact oneM_u8 _|exact oneL_u8 _|exact pc_one _|(simp [oneC]; done)) (key_cp _ hbl) ?_
  refine Zg3 ⟨(fun hh => Bool.noConfusion hh), ?_⟩
  refine Zik ?_
  refine Ct.o ?_
  rw [hone]
  generalize hone2 : oneKey key nonce = one at hol
  refine Y2 ?_
  refine Zor (c := new_c one hol) (k := ?_)
  rintro _ _ ⟨p, rfl, rfl⟩
  refine Y4 ?_
  refine Zhz (cs := ((List.replicate 16 0#8).map u8b).toArray) rfl ?_; intro b12
  refine Y4 ?_
  refine Zh7 (cs := #[.slice ma more.length mc, .slice ca cover.length cc]) (by omega) (by omega) qF ?_; intro b25
  refine V3 ?_
  refine Zgo [(14, 14), (27, 42)] (by kernel_rfl) (fun i : Nat => i ≤ 2) (fun i => cl p (pc (writeS (newS one) (msgB more cover i))) 320 :: cl b25 #[.slice ma more.length mc, .slice ca cover.length cc] 66 :: cl b12 ((List.replicate 16 0#8).map u8b).toArray 160 :: cl b8 ((List.replicate 16 0#8).map u8b).toArray 266 :: L)
    (fun i => [(27, nvv i)]) (fun i => 2 - i) 0 (by omega) (by show Imp _ (cl p (pc (writeS (newS one) [])) _ :: _); rw [writeS_nil]; exact qI) ⟨rfl, trivial⟩ ?_
  intro i u hi
  have hok : PolyOk (writeS (newS one) (msgB more cover i)) := writeS_ok (newS_ok one)
  refine V3 ?_
  refine Zgg rfl (fun hB => ?_) (fun hB => ?_)
  · obtain ⟨x, hx⟩ : ∃ x, x = if i = 0 then more else cover := ⟨_, rfl⟩
    obtain ⟨xa, xc, hxv, hxb, hxl⟩ : ∃ xa xc, (#[.slice ma more.length mc, .slice ca cover.length cc] : Array Value)[i]? = some (.slice xa x.length xc) ∧ Bs L (.slice xa x.length xc) x ∧ x.length ≤ 140737488351232 := by
      match i, hB with
      | 0, _ => exact ⟨ma, mc, by rw [hx]; rfl, by rw [hx]; exact hm, by rw [hx]; exact hml⟩
      | 1, _ => exact ⟨ca, cc, by rw [hx]; rfl, by rw [hx]; exact hc, by rw [hx]; exact hcl⟩
    have hk16 : (16 - x.length % 16) % 16 ≤ 16 := by omega
    refine Y2 ?_
    refine Zhp rfl qH (hxv) ?_
    refine Y5 ?_
    refine Zor (c := writeB_x (L := L) _ hok hxb) (k := ?_)
    rintro _ _ ⟨rfl, rfl⟩
    refine V2 ?_
    rw [← writeS_append]
    have hok2 : PolyOk (writeS (newS one) (msgB more cover i ++ x)) := writeS_ok (newS_ok one)
    have hz := bs_piece (M := [cl b12 ((List.replicate 16 0#8).map u8b).toArray 160]) (o := 0) (n := (16 - x.length % 16) % 16) (c := 16) .here (by simp; omega) (by omega) (by omega)
    have hpd : ((List.replicate 16 0#8).drop 0).take ((16 - x.length % 16) % 16) = padB x := by
      unfold padB; rw [List.drop_zero, List.take_replicate]; congr 1; omega
    rw [hpd] at hz
    refine Y5 ?_
    first|refine Zhg (Zmb (a := 16) rfl rfl) ?_|refine Zhg (Zbh rfl rfl) ?_
    refine Y1 ?_
    refine Zhg (Zmy (h := (16 - x.length % 16) % 16) rfl rfl (by omega) (by omega)) ?_
    refine Zor (c := writeB_x (L := [cl b12 ((List.replicate 16 0#8).map u8b).toArray 160]) _ hok2 hz) (k := ?_)
    rintro _ _ ⟨rfl, rfl⟩
    refine V2 ?_
    rw [← writeS_append, hx, ← msgB_succ more cover i hB]
    refine V4 ?_
    exact Zgl (i + 1) qO (by omega) qI ⟨rfl, trivial⟩
  · have hie : i = 2 := by omega
    subst hie
    refine Y4 ?_
    refine Zhg (Zlv rfl) ?_
    refine Zor (c := put64_x (L := []) (BitVec.ofNat 64 more.length) Bs.nil (by simp)) (k := ?_)
    rintro _ _ ⟨pa, pcc, rfl, rfl⟩
    refine Y3 ?_
    refine Zhg (Zlv rfl) ?_
    refine Zor (c := put64_x (L := [own 5 1 (.slice pa ([] ++ leB (BitVec.ofNat 64 more.length) 8).length pcc) ([] ++ leB (BitVec.ofNat 64 more.length) 8).length (([] ++ leB (BitVec.ofNat 64 more.length) 8).map u8b)]) (BitVec.ofNat 64 cover.length) (Bs.own .here) (by simp [leB_len])) (k := ?_)
    rintro _ _ ⟨qa, qc, rfl, rfl⟩
    refine Y1 ?_
    refine Zor (c := writeB_x (L := [own 5 1 (.slice qa (([] ++ leB (BitVec.ofNat 64 more.length) 8) ++ leB (BitVec.ofNat 64 cover.length) 8).length qc) (([] ++ leB (BitVec.ofNat 64 more.length) 8) ++ leB (BitVec.ofNat 64 cover.length) 8).length ((([] ++ leB (BitVec.ofNat 64 more.length) 8) ++ leB (BitVec.ofNat 64 cover.length) 8).map u8b)]) _ hok (Bs.own .here)) (k := ?_)
    rintro _ _ ⟨rfl, rfl⟩
    refine V2 ?_
    rw [← writeS_append]
    have hok2 : PolyOk (writeS (newS one) (msgB more cover 2 ++ (([] ++ leB (BitVec.ofNat 64 more.length) 8) ++ leB (BitVec.ofNat 64 cover.length) 8))) := writeS_ok (newS_ok one)
    have hfin : sumS (writeS (newS one) (msgB more cover 2 ++ (([] ++ leB (BitVec.ofNat 64 more.length) 8) ++ leB (BitVec.ofNat 64 cover.length) 8))) = vouchB key nonce more cover := by
      unfold vouchB code macB; rw [hone2, List.nil_append]; rfl
    have hvl := vouchB_len key nonce more cover
    have hfl := congrArg List.length hfin
    refine Y2 ?_
    refine Zor (c := sum_c _ hok2) (k := ?_)
    rintro _ _ ⟨rfl, rfl⟩
    refine Y1 ?_
    first|refine Zhy rfl rfl qR qZ (by first|rfl|exact oneM_u8 _|exact oneL_u8 _|exact pc_one _|(simp [oneC]; done)) qZ ?_|refine Zhx rfl rfl qR qZ (by first|rfl|exact oneM_u8 _|exact oneL_u8 _|exact pc_one _|(simp [oneC]; done)) qZ rfl ?_
    refine V1 ?_
    rw [hfin]
    refine rx1 (Zhe rfl qH qZ (Zg7)) ?_
    exact ⟨_, ⟨rfl, rfl⟩, qI⟩
end Go.Sl
namespace Go.Sl
open Go Go.Proofs
attribute [local irreducible] pt old pur ex all den denOps denS xOps xC cX CX xthen xblk xcut xloop xng retX resX Calls PV Rd Con
attribute [local irreducible] code blockB ksB xorB vouchB leB
def sealR (key nonce more text : List Byte) : List Byte × Nat := if 1048576 < more.length ∨ 1048576 < text.length then ([], 3) else (sealB key nonce more text, 0)
theorem seal_x {L : List Asrt} (key nonce : List Byte) (hk : key.length = 32) (hn : nonce.length = 12) {vm vt : Value} {more text : List Byte} (hm : Bs L vm more) (ht : Bs L vt text) (hml : more.length ≤ 140737488351232) (htl : text.length ≤ 140737488351232) :
    Con Tryz.prog 201 [.agg (key.map u8b).toArray, .agg (nonce.map u8b).toArray, vm, vt] L (fun r M => ∃ a c, r = .tuple #[.slice a (sealR key nonce more text).1.length c, nvv (sealR key nonce more text).2] ∧ M = own 5 1 (.slice a (sealR key nonce more text).1.length c) (sealR key nonce more text).1.length ((sealR key nonce more text).1.map u8b) :: L) := by
  refine Con.get (fun w0 w F H => hm.sh _ _ _ H) ?_
  rintro ⟨ma, mc, rfl, hmc, hmcm⟩
  refine Con.get (fun w0 w F H => ht.sh _ _ _ H) ?_
  rintro ⟨ta, tc, rfl, htc, htcm⟩
  by_cases hlong : 1048576 < more.length ∨ 1048576 < text.length
  · have e : sealR key nonce more text = ([], 3) := if_pos hlong
    rw [e]
    refine fn_y Tryz.func201 Tryz.mixed ?_
    intro w0
    refine Y1 ?_
    refine Zh5 rfl ?_; intro b4
    refine Zh5 rfl ?_; intro b5
    refine V3 ?_
    by_cases h1 : 1048576 < more.length
    · refine Y4 ?_
      refine Zos 16 rfl (h1) ?_
      refine V11 ?_
      refine rx2 (Zhc rfl (Zg9 rfl (Zg7))) ?_
      exact ⟨_, ⟨none, 0, rfl, rfl⟩, (Imp.arr (N := L) qV).trans Imp.own_nil⟩
    · refine Y4 ?_
      refine Zot 16 rfl (h1) ?_
      refine Y4 ?_
      refine Zos 20 rfl ((hlong.resolve_left h1)) ?_
      refine V7 ?_
      refine rx2 (Zhc rfl (Zg9 rfl (Zg7))) ?_
      exact ⟨_, ⟨none, 0, rfl, rfl⟩, (Imp.arr (N := L) qV).trans Imp.own_nil⟩
  · have e : sealR key nonce more text = (sealB key nonce more text, 0) := if_neg hlong
    rw [e]
    have h1 : ¬ 1048576 < more.length := fun h => hlong (.inl h)
    have h2 : ¬ 1048576 < text.length := fun h => hlong (.inr h)
    have hxl := xorB_len key nonce 64 text
    have hvl := vouchB_len key nonce more (xorB key nonce 64 text)
    refine fn_y Tryz.func201 Tryz.mixed ?_
    intro w0
    refine Y1 ?_
    refine Zh5 rfl ?_; intro b4
    refine Zh5 rfl ?_; intro b5
    refine Y7 ?_
    refine Zot 16 rfl (h1) ?_
    refine Y4 ?_
    refine Zot 20 rfl (h2) ?_
    refine Y7 ?_
    refine Zor (c := xor_x (L := L) key nonce hk hn ht (by omega)) (k := ?_)
    rintro _ _ ⟨g, rfl, rfl⟩
    refine Y10 ?_
    refine Zot 30 rfl ((fun h => h rfl)) ?_
    refine V2 ?_
    have hcv : Bs (cl g ((xorB key nonce 64 text).map u8b).toArray 5 :: L) (.slice (some ⟨g, 0, none⟩) text.length text.length) (xorB key nonce 64 text) := by
      have := Bs.cl (M := cl g ((xorB key nonce 64 text).map u8b).toArray 5 :: L) (o := 0) (c := text.length) (l := xorB key nonce 64 text) .here (by simp) (by simp; exact List.take_of_length_le (by simp)) (by omega) (by omega)
      rwa [hxl] at this
    refine Y5 ?_
    refine Zor (c := vouch_x (L := cl g ((xorB key nonce 64 text).map u8b).toArray 5 :: L) key nonce hk hn (hm.imp Imp.tail) hcv (by omega) (by omega)) (k := ?_)
    rintro _ _ ⟨rfl, rfl⟩
    refine Y1 ?_
    refine Zhz (cs := ((List.replicate 16 0#8).map u8b).toArray) rfl ?_; intro b12
    first|refine Zhy rfl rfl qR qZ qN qZ ?_|refine Zhx rfl rfl qR qZ qN qZ rfl ?_
    refine Y5 ?_
    refine Zm3 (f := u8b) (a := 0#8) (len := 0) rfl rfl rfl qS qS qS ?_; intro b40
    refine V2 ?_
    refine Zgp (Imp.own_mk (n := 0) (cap := text.length + 16) (size := 1) (xs := []) (by omega) (by omega) (by simp) (by simp)) ?_
    have hcr : Rd (cl g ((xorB key nonce 64 text).map u8b).toArray 5 :: L) 1 (.slice (some ⟨g, 0, none⟩) text.length text.length) text.length ((xorB key nonce 64 text).map u8b) := by
      have := hcv.rd; rwa [hxl] at this
    have htr : Rd [cl b12 ((vouchB key nonce more (xorB key nonce 64 text)).map u8b).toArray 266] 1 (.slice (some ⟨b12, 0, none⟩) 16 16) 16 ((vouchB key nonce more (xorB key nonce 64 text)).map u8b) :=
      Rd.cl (o := 0) .here (by simp [hvl]) (by simp [hvl]) (by simp; exact List.take_of_length_le (by simp [hvl]))
    refine Ct.o ?_
    refine Zij ([]) [] (.q 0 (.q 1 (.q 3 (.e 2 false (.e 4 false (.q 5 (.q 6 .nil))))))) (by kernel_rfl) (by kernel_rfl) (Imp.arr Arr.stop) ?_
    refine W2 ?_
    refine Zim rfl (Zmy (h := 16) rfl rfl) ?_
    refine Ziq rfl ?_
    refine Zia rfl rfl qH (hcr.imp (Imp.arr qV)) qN (by omega) qS ?_; intro a1 c1
    refine Zg3 ⟨(fun hh => Bool.noConfusion hh), ?_⟩
    refine Ziq rfl ?_
    refine Zia rfl rfl qH (htr.imp (Imp.arr qV)) qN (by omega) qS ?_; intro a2 c2
    refine Zg3 ⟨(fun hh => Bool.noConfusion hh), ?_⟩
    refine W3 ?_
    refine Ct.o ?_
    have e1 : [] ++ (xorB key nonce 64 text).map u8b ++ (vouchB key nonce more (xorB key nonce 64 text)).map u8b = (sealB key nonce more text).map u8b := by unfold sealB; simp
    have e2 : 0 + text.length + 16 = (sealB key nonce more text).length := by rw [sealB_len]; omega
    rw [e1, e2]
    refine rx2 (Zhc rfl (Zg9 rfl (Zg7))) ?_
    exact ⟨_, ⟨a2, c2, rfl, rfl⟩, qI⟩
end Go.Sl
namespace Go.Sl
open Go Go.Proofs
attribute [local irreducible] pt old pur ex all den denOps denS xOps xC cX CX xthen xblk xcut xloop xng retX resX Calls PV Rd Con
attribute [local irreducible] code blockB ksB xorB vouchB leB
def lookR (key nonce more box : List Byte) : List Byte × BitVec 64 × Nat :=
  if box.length < 16 then ([], 0#64, 4) else if 1048576 < more.length ∨ 1048576 < box.length - 16 then ([], 0#64, 3)
  else if rightB key nonce more box = true then (textB key nonce box, 18446744073709551615#64, 0) else (List.replicate (box.length - 16) 0#8, 0#64, 0)
theorem look_x {L : List Asrt} (key nonce : List Byte) (hk : key.length = 32) (hn : nonce.length = 12) {vm vb : Value} {more box : List Byte} (hm : Bs L vm more) (hb : Bs L vb box) (hml : more.length ≤ 140737488351232) (hbl : box.length ≤ 140737488351232) :
    Con Tryz.prog 187 [.agg (key.map u8b).toArray, .agg (nonce.map u8b).toArray, vm, vb] L (fun r M => ∃ a c, r = .tuple #[.slice a (lookR key nonce more box).1.length c, u64b (lookR key nonce more box).2.1, nvv (lookR key nonce more box).2.2] ∧ M = own 5 1 (.slice a (lookR key nonce more box).1.length c) (lookR key nonce more box).1.length ((lookR key nonce more box).1.map u8b) :: L) := by
  refine Con.get (fun w0 w F H => hm.sh _ _ _ H) ?_
  rintro ⟨ma, mc, rfl, hmc, hmcm⟩
  refine Con.get (fun w0 w F H => hb.sh _ _ _ H) ?_
  rintro ⟨ba, bc, rfl, hbc, hbcm⟩
  by_cases h16 : box.length < 16
  · have e : lookR key nonce more box = ([], 0#64, 4) := if_pos h16
    rw [e]
    refine fn_y Tryz.func187 Tryz.mixed ?_
    intro w0
    refine Y1 ?_
    refine Zh5 rfl ?_; intro b4
    refine Zh5 rfl ?_; intro b5
    refine V4 ?_
    refine Zno Tryz.mixed ?_
    refine Y3 ?_
    refine Zhg (Zbh (b := 16) rfl rfl (by omega)) ?_
    refine Y4 ?_
    refine Zhg (Zbn (b := 0) rfl rfl) ?_
    refine V1 ?_
    refine Zgg rfl (fun h => ?_) (fun h => absurd h (by omega))
    refine V5 ?_
    refine rx3 (Zhc rfl (Zg9 rfl (Zg9 rfl (Zg7)))) ?_
    exact ⟨_, ⟨none, 0, rfl, rfl⟩, (Imp.arr (N := L) qV).trans Imp.own_nil⟩
  by_cases hlong : 1048576 < more.length ∨ 1048576 < box.length - 16
  · have e : lookR key nonce more box = ([], 0#64, 3) := by unfold lookR; rw [if_neg h16, if_pos hlong]
    rw [e]
    refine fn_y Tryz.func187 Tryz.mixed ?_
    intro w0
    refine Y1 ?_
    refine Zh5 rfl ?_; intro b4
    refine Zh5 rfl ?_; intro b5
    refine V4 ?_
    refine Zno Tryz.mixed ?_
    refine Y9 ?_
    refine Zot 21 rfl (by omega) ?_
    refine V2 ?_
    by_cases h1 : 1048576 < more.length
    · refine Y4 ?_
      refine Zos 24 rfl (h1) ?_
      refine V11 ?_
      refine rx3 (Zhc rfl (Zg9 rfl (Zg9 rfl (Zg7)))) ?_
      exact ⟨_, ⟨none, 0, rfl, rfl⟩, (Imp.arr (N := L) qV).trans Imp.own_nil⟩
    · refine Y4 ?_
      refine Zot 24 rfl (h1) ?_
      refine Y3 ?_
      refine Zos 27 rfl ((hlong.resolve_left h1)) ?_
      refine V8 ?_
      refine rx3 (Zhc rfl (Zg9 rfl (Zg9 rfl (Zg7)))) ?_
      exact ⟨_, ⟨none, 0, rfl, rfl⟩, (Imp.arr (N := L) qV).trans Imp.own_nil⟩
  have h1 : ¬ 1048576 < more.length := fun h => hlong (.inl h)
  have h2 : ¬ 1048576 < box.length - 16 := fun h => hlong (.inr h)
  have hcl : (coverB box).length = box.length - 16 := by simp [coverB]
  have htl : (tagB box).length = 16 := by simp [tagB]; omega
  have hvl := vouchB_len key nonce more (coverB box)
  have hxl := textB_len key nonce box
  refine Con.get (fun w0 w F H => hb.some (by omega) H) ?_
  rintro ⟨b0, o0, rfl⟩
  have hcv : Bs L (.slice (some ⟨b0, o0, none⟩) (box.length - 16) bc) (coverB box) := hb.take (by omega)
  have htg : Bs L (.slice (some ⟨b0, o0 + (box.length - 16), none⟩) (box.length - (box.length - 16)) (bc - (box.length - 16))) (tagB box) := bs_drop hb (by omega) (by omega)
  refine fn_y Tryz.func187 Tryz.mixed ?_
  intro w0
  refine Y1 ?_
  refine Zh5 rfl ?_; intro b4
  refine Zh5 rfl ?_; intro b5
  refine V4 ?_
  refine Zno Tryz.mixed ?_
  refine Y9 ?_
  refine Zot 21 rfl (by omega) ?_
  refine Y6 ?_
  refine Zot 24 rfl (h1) ?_
  refine Y3 ?_
  refine Zot 27 rfl (h2) ?_
  refine V3 ?_
  refine Zij (_) [1, 6, 7] (.q 2 (.q 3 (.q 4 (.q 5 (.r 0 (.r 1 (.e 6 true (.a 7 (.e 8 false .nil))))))))) (by kernel_rfl) (by kernel_rfl) (Imp.refl _) ?_
  refine W3 ?_
  refine Zim rfl (Zm0 (h := box.length - 16) rfl rfl (by omega)) ?_
  refine W2 ?_
  refine Ziq rfl ?_
  refine Zor (c := vouch_x (L := L) key nonce hk hn hm hcv (by omega) (by omega)) (k := ?_)
  rintro _ _ ⟨rfl, rfl⟩
  refine Y1 ?_
  refine Zg3 ⟨fun _ => Imp.arr qV, ?_⟩
  refine Zir rfl (cs := ((List.replicate 16 0#8).map u8b).toArray) rfl ?_; intro b12
  refine Ziq rfl ?_
  first|refine Zhy rfl rfl qR qZ qN qZ ?_|refine Zhx rfl rfl qR qZ qN qZ rfl ?_
  refine Zg3 ⟨(fun hh => Bool.noConfusion hh), ?_⟩
  refine Zik ?_
  refine Ct.o ?_
  have hva := bs_full (M := cl b12 ((vouchB key nonce more (coverB box)).map u8b).toArray 266 :: L) (n := 16) .here hvl (by omega)
  refine Ct.o ?_
  refine Zij ([]) [] (.q 0 (.q 1 (.q 2 (.q 3 (.e 4 false (.q 5 .nil)))))) (by kernel_rfl) (by kernel_rfl) (Imp.arr Arr.stop) ?_
  refine Zim rfl (Zmy (h := 16) rfl rfl) ?_
  refine W2 ?_
  first|refine Zim rfl (Zna (l := box.length - 16) (h := box.length) rfl qB qB) ?_|refine Zim rfl (Zmz (l := box.length - 16) (h := box.length) rfl qB qB) ?_
  refine Ziq rfl ?_
  refine Zor (c := same_x (L := cl b12 ((vouchB key nonce more (coverB box)).map u8b).toArray 266 :: L) hva (htg.imp Imp.tail) (by omega)) (k := ?_)
  rintro _ _ ⟨rfl, rfl⟩
  refine Y1 ?_
  refine Zg3 ⟨(fun hh => Bool.noConfusion hh), ?_⟩
  refine W2 ?_
  refine Ct.o ?_
  refine Zij (_) [1] (.q 2 (.q 3 (.q 4 (.r 0 (.r 1 (.e 5 false (.q 6 (.q 7 (.q 8 (.q 9 (.q 10 .nil))))))))))) (by kernel_rfl) (by kernel_rfl) (Imp.refl _) ?_
  refine W2 ?_
  refine Zim rfl (Zm0 (h := box.length - 16) rfl rfl (by omega)) ?_
  refine W2 ?_
  refine Ziq rfl ?_
  refine Zor (c := xor_x (L := L) key nonce hk hn hcv (by omega)) (k := ?_)
  rintro _ _ ⟨g, rfl, rfl⟩
  refine Y1 ?_
  refine Zg3 ⟨(fun hh => Bool.noConfusion hh), ?_⟩
  refine W6 ?_
  refine Ct.o ?_
  rw [show xorB key nonce 64 (coverB box) = textB key nonce box from rfl, hcl]
  refine Y3 ?_
  refine Zot 51 rfl ((fun h => h rfl)) ?_
  refine V2 ?_
  by_cases hr : vouchB key nonce more (coverB box) = tagB box
  · have e : lookR key nonce more box = (textB key nonce box, 18446744073709551615#64, 0) := by unfold lookR; rw [if_neg h16, if_neg hlong, if_pos (show rightB key nonce more box = true from decide_eq_true hr)]
    rw [e, if_pos hr]
    refine Y2 ?_
    refine Zhg (Zlo (y := 0#64) rfl rfl) ?_
    refine Zos 53 rfl ((by decide)) ?_
    refine V9 ?_
    refine rx3 (Zhc rfl (Zg9 rfl (Zg9 rfl (Zg7)))) ?_
    refine ⟨_, ⟨some ⟨g, 0, none⟩, box.length - 16, by dsimp only; rw [hxl]; rfl, rfl⟩, ?_⟩
    dsimp only
    rw [hxl]
    exact (Imp.arr (N := cl g ((textB key nonce box).map u8b).toArray 5 :: L) qV).trans (Imp.own_mk (by omega) (by omega) (by simp [hxl]) (by simp; exact List.take_of_length_le (by simp [hxl])))
  · have e : lookR key nonce more box = (List.replicate (box.length - 16) 0#8, 0#64, 0) := by unfold lookR; rw [if_neg h16, if_neg hlong, if_neg (show ¬ rightB key nonce more box = true from fun h => hr (of_decide_eq_true h))]
    rw [e, if_neg hr]
    refine Y2 ?_
    refine Zhg (Zlo (y := 0#64) rfl rfl) ?_
    refine Zot 53 rfl ((fun h => h rfl)) ?_
    refine V7 ?_
    refine Zgo [(16, 16), (58, 64)] (by kernel_rfl) (fun i : Nat => i ≤ box.length - 16) (fun i => cl g ((List.replicate i 0#8 ++ (textB key nonce box).drop i).map u8b).toArray 5 :: L) (fun i => [(58, nvv i)]) (fun i => box.length - 16 - i) 0 (by omega) (by show Imp _ (cl g (([] ++ textB key nonce box).map u8b).toArray _ :: L); rw [List.nil_append]; exact qI) ⟨rfl, trivial⟩ ?_
    intro i u hi
    have hzl : (List.replicate i 0#8 ++ (textB key nonce box).drop i).length = box.length - 16 := by simp [hxl]; omega
    refine V3 ?_
    refine Zgg rfl (fun hB => ?_) (fun hB => ?_)
    · refine Y8 ?_
      refine Zhs rfl (v := u8b 0#8) rfl rfl qR qZ (setL (f := u8b)) ?_
      refine V1 ?_
      have e2 : (List.replicate i 0#8 ++ (textB key nonce box).drop i).set i 0#8 = List.replicate (i + 1) 0#8 ++ (textB key nonce box).drop (i + 1) := by
        rw [List.set_append_right _ _ (by simp), List.length_replicate, Nat.sub_self, List.drop_eq_getElem_cons (by omega), List.set_cons_zero, List.replicate_succ', List.append_assoc]; rfl
      rw [e2]
      refine V4 ?_
      exact Zgl (i + 1) qO (by omega) qI ⟨rfl, trivial⟩
    · have hie : i = box.length - 16 := by omega
      subst hie
      rw [List.drop_of_length_le (by omega), List.append_nil]
      refine V7 ?_
      refine rx3 (Zhc rfl (Zg9 rfl (Zg9 rfl (Zg7)))) ?_
      refine ⟨_, ⟨some ⟨g, 0, none⟩, box.length - 16, by dsimp only; rw [List.length_replicate]; rfl, rfl⟩, ?_⟩
      dsimp only
      rw [List.length_replicate]
      exact (Imp.arr (N := cl g ((List.replicate (box.length - 16) 0#8).map u8b).toArray 5 :: L) qV).trans (Imp.own_mk (by omega) (by omega) (by simp) (by simp))
def openR (key nonce more box : List Byte) : List Byte × Nat :=
  if box.length < 16 then ([], 4) else if 1048576 < more.length ∨ 1048576 < box.length - 16 then ([], 3)
  else if rightB key nonce more box = true then (textB key nonce box, 0) else ([], 70)
theorem open_x {L : List Asrt} (key nonce : List Byte) (hk : key.length = 32) (hn : nonce.length = 12) {vm vb : Value} {more box : List Byte} (hm : Bs L vm more) (hb : Bs L vb box) (hml : more.length ≤ 140737488351232) (hbl : box.length ≤ 140737488351232) :
    Con Tryz.prog 152 [.agg (key.map u8b).toArray, .agg (nonce.map u8b).toArray, vm, vb] L (fun r M => ∃ a c, r = .tuple #[.slice a (openR key nonce more box).1.length c, nvv (openR key nonce more box).2] ∧ M = own 5 1 (.slice a (openR key nonce more box).1.length c) (openR key nonce more box).1.length ((openR key nonce more box).1.map u8b) :: L) := by
  refine Con.get (fun w0 w F H => hm.sh _ _ _ H) ?_
  rintro ⟨ma, mc, rfl, hmc, hmcm⟩
  refine Con.get (fun w0 w F H => hb.sh _ _ _ H) ?_
  rintro ⟨ba, bc, rfl, hbc, hbcm⟩
  refine fn_y Tryz.func152 Tryz.mixed ?_
  intro w0
  refine Y1 ?_
  refine Zh5 rfl ?_; intro b4
  refine Zh5 rfl ?_; intro b5
  refine Y8 ?_
  refine Zor (c := look_x (L := L) key nonce hk hn hm hb hml hbl) (k := ?_)
  rintro _ _ ⟨xa, xc, rfl, rfl⟩
  refine V9 ?_
  have drop0 : ∀ N, Imp (own 5 1 (.slice xa (lookR key nonce more box).1.length xc) (lookR key nonce more box).1.length ((lookR key nonce more box).1.map u8b) :: N) (own 5 1 (.slice none 0 0) 0 [] :: N) := fun N => Imp.tail.trans Imp.own_nil
  unfold lookR openR
  by_cases h16 : box.length < 16
  · simp only [if_pos h16]
    refine Y3 ?_
    refine Zos 23 rfl (by decide) ?_
    refine V7 ?_
    refine rx2 (Zhc rfl (Zg9 rfl (Zg7))) ?_
    exact ⟨_, ⟨none, 0, rfl, rfl⟩, (Imp.arr (N := L) qV).trans Imp.own_nil⟩
  · simp only [if_neg h16]
    by_cases hlong : 1048576 < more.length ∨ 1048576 < box.length - 16
    · simp only [if_pos hlong]
      refine Y3 ?_
      refine Zos 23 rfl (by decide) ?_
      refine V7 ?_
      refine rx2 (Zhc rfl (Zg9 rfl (Zg7))) ?_
      exact ⟨_, ⟨none, 0, rfl, rfl⟩, (Imp.arr (N := L) qV).trans Imp.own_nil⟩
    · simp only [if_neg hlong]
      by_cases hr : rightB key nonce more box = true
      · simp only [if_pos hr]
        refine Y3 ?_
        refine Zot 23 rfl (by decide) ?_
        refine Y4 ?_
        refine Zhg (Zln (y := 0#64) rfl rfl) ?_
        refine Zot 26 rfl (by decide) ?_
        refine V7 ?_
        refine rx2 (Zhc rfl (Zg9 rfl (Zg7))) ?_
        exact ⟨_, ⟨xa, xc, rfl, rfl⟩, qI⟩
      · simp only [if_neg hr]
        refine Y3 ?_
        refine Zot 23 rfl (by decide) ?_
        refine Y4 ?_
        refine Zhg (Zln (y := 0#64) rfl rfl) ?_
        refine Zos 26 rfl (by decide) ?_
        refine V6 ?_
        refine rx2 (Zhc rfl (Zg9 rfl (Zg7))) ?_
        exact ⟨_, ⟨none, 0, rfl, rfl⟩, (Imp.arr (N := L) qV).trans Imp.own_nil⟩
end Go.Sl
namespace Go.Sl
open Go Go.Proofs
attribute [local irreducible] pt old pur ex all den denOps denS xOps xC cX CX xthen xblk xcut xloop xng retX resX Calls PV Rd Con
attribute [local irreducible] code blockB ksB xorB vouchB leB headB moreB sealB rightB textB
theorem pgSeal_x {L : List Asrt} (key : List Byte) (hk : key.length = 32) (p : Plc) {vt : Value} {text : List Byte} (ht : Bs L vt text) (htl : text.length ≤ 140737488351232) :
    Con Tryz.prog 180 [.agg (key.map u8b).toArray, .agg (plc p), vt] L (fun r M => ∃ a c, r = .tuple #[.slice a (pgSealR key p text).1.length c, nvv (pgSealR key p text).2] ∧ M = own 5 1 (.slice a (pgSealR key p text).1.length c) (pgSealR key p text).1.length ((pgSealR key p text).1.map u8b) :: L) := by
  refine Con.get (fun w0 w F H => ht.sh _ _ _ H) ?_
  rintro ⟨ta, tc, rfl, htc, htcm⟩
  by_cases hlong : 4096 < text.length
  · have e : pgSealR key p text = ([], 3) := if_pos hlong
    rw [e]
    refine fn_y Tryz.func180 Tryz.mixed ?_
    intro w0
    refine Y1 ?_
    refine Zh5 rfl ?_; intro b3
    refine Zh5 rfl ?_; intro b4
    refine Y7 ?_
    refine Zos 14 rfl (hlong) ?_
    refine V6 ?_
    refine rx2 (Zhc rfl (Zg9 rfl (Zg7))) ?_
    exact ⟨_, ⟨none, 0, rfl, rfl⟩, (Imp.arr (N := L) qV).trans Imp.own_nil⟩
  · have e : pgSealR key p text = (pgSealB key p text, 0) := if_neg hlong
    rw [e]
    have hml := moreB_len p
    have hhl := headB_len p
    have hsl := sealB_len key (headB p) (moreB p) text
    have esr : sealR key (headB p) (moreB p) text = (sealB key (headB p) (moreB p) text, 0) := if_neg (by omega)
    have hs := fun ma mc => seal_x (L := own 5 1 (.slice ma (moreB p).length mc) (moreB p).length ((moreB p).map u8b) :: L) key (headB p) hk hhl (Bs.own .here) (ht.imp Imp.tail) (by omega) (by omega)
    rw [esr] at hs
    dsimp only at hs
    refine fn_y Tryz.func180 Tryz.mixed ?_
    intro w0
    refine Y1 ?_
    refine Zh5 rfl ?_; intro b3
    refine Zh5 rfl ?_; intro b4
    refine Y7 ?_
    refine Zot 14 rfl (hlong) ?_
    refine Y4 ?_
    refine Zor (c := pghead_x p) (k := ?_)
    rintro _ _ ⟨rfl, rfl⟩
    refine Y1 ?_
    refine Zhz (cs := ((List.replicate 12 0#8).map u8b).toArray) rfl ?_; intro b8
    first|refine Zhy rfl rfl qR qZ qN qZ ?_|refine Zhx rfl rfl qR qZ qN qZ rfl ?_
    refine V1 ?_
    refine Zij ([cl b3 (key.map u8b).toArray 42, cl b8 ((headB p).map u8b).toArray 156, cl b4 (plc p) 189]) [1, 2, 3] (.q 4 (.r 0 (.r 1 (.r 2 (.e 3 true (.e 5 false (.q 6 (.q 7 (.q 8 (.q 9 (.q 10 .nil))))))))))) (by kernel_rfl) (by kernel_rfl) (Imp.arr qV) ?_
    refine W4 ?_
    refine Ziq rfl ?_
    refine Zor (c := pgmore_x p) (k := ?_)
    rintro _ _ ⟨ma, mc, rfl, rfl⟩
    refine Y1 ?_
    refine Zg3 ⟨fun _ => Imp.arr qV, ?_⟩
    refine Ziq rfl ?_
    refine Zor (c := hs ma mc) (k := ?_)
    rintro _ _ ⟨sa, sc, rfl, rfl⟩
    refine Y1 ?_
    refine Zg3 ⟨(fun hh => Bool.noConfusion hh), ?_⟩
    refine W6 ?_
    refine Y3 ?_
    refine Zot 27 rfl ((fun h => h rfl)) ?_
    refine Y5 ?_
    first|refine Zhg (Zma (a := 12) rfl rfl) ?_|refine Zhg (Zbg rfl rfl) ?_
    refine Zm3 (f := u8b) (a := 0#8) (len := 0) rfl rfl rfl qS qS qS ?_; intro b32
    refine V2 ?_
    refine Zgp (Imp.own_mk (n := 0) (cap := 12 + (sealB key (headB p) (moreB p) text).length) (size := 1) (xs := []) (by omega) (by omega) (by simp) (by simp)) ?_
    have hhr : Rd [cl b8 ((headB p).map u8b).toArray 156] 1 (.slice (some ⟨b8, 0, none⟩) 12 12) 12 ((headB p).map u8b) :=
      Rd.cl (o := 0) .here (by simp [hhl]) (by simp [hhl]) (by simp; exact List.take_of_length_le (by simp [hhl]))
    have hsr : Rd [own 5 1 (.slice sa (sealB key (headB p) (moreB p) text).length sc) (sealB key (headB p) (moreB p) text).length ((sealB key (headB p) (moreB p) text).map u8b)] 1 (.slice sa (sealB key (headB p) (moreB p) text).length sc) (sealB key (headB p) (moreB p) text).length ((sealB key (headB p) (moreB p) text).map u8b) := Rd.own .here
    refine Y2 ?_
    refine Zhg (Zmy (h := 12) rfl rfl) ?_
    refine Zia rfl rfl qH (hhr.imp (Imp.arr qV)) qN (by omega) qS ?_; intro a1 c1
    refine Y1 ?_
    refine Zia rfl rfl qH (hsr.imp (Imp.arr qV)) qN (by omega) qS ?_; intro a2 c2
    refine V3 ?_
    have e1 : [] ++ (headB p).map u8b ++ (sealB key (headB p) (moreB p) text).map u8b = (pgSealB key p text).map u8b := by unfold pgSealB; simp
    have e2 : 0 + 12 + (sealB key (headB p) (moreB p) text).length = (pgSealB key p text).length := by rw [pgSealB_len]; omega
    rw [e1, e2]
    refine rx2 (Zhc rfl (Zg9 rfl (Zg7))) ?_
    exact ⟨_, ⟨a2, c2, rfl, rfl⟩, qI⟩
theorem pgOpen_x {L : List Asrt} (key : List Byte) (hk : key.length = 32) (p : Plc) {vb : Value} {box : List Byte} (hb : Bs L vb box) (hbl : box.length ≤ 140737488351232) :
    Con Tryz.prog 118 [.agg (key.map u8b).toArray, .agg (plc p), vb] L (fun r M => ∃ a c, r = .tuple #[.slice a (pgOpenR key p box).1.length c, nvv (pgOpenR key p box).2] ∧ M = own 5 1 (.slice a (pgOpenR key p box).1.length c) (pgOpenR key p box).1.length ((pgOpenR key p box).1.map u8b) :: L) := by
  refine Con.get (fun w0 w F H => hb.sh _ _ _ H) ?_
  rintro ⟨ba, bc, rfl, hbc, hbcm⟩
  have eno : ¬ pgFits p box → pgOpenR key p box = ([], 120) := fun h => if_neg (fun h2 => h h2.1)
  by_cases hlong : 4124 < box.length
  · rw [eno (fun h => by have := h.2.1; omega)]
    refine fn_y Tryz.func118 Tryz.mixed ?_
    intro w0
    refine Y1 ?_
    refine Zh5 rfl ?_; intro b3
    refine Zh5 rfl ?_; intro b4
    refine Y7 ?_
    refine Zos 14 rfl (hlong) ?_
    refine V6 ?_
    refine rx2 (Zhc rfl (Zg9 rfl (Zg7))) ?_
    exact ⟨_, ⟨none, 0, rfl, rfl⟩, (Imp.arr (N := L) qV).trans Imp.own_nil⟩
  by_cases h28 : box.length < 28
  · rw [eno (fun h => by have := h.1; omega)]
    have hh := pgHead_x hb hbl
    rw [show pgHeadR box = (0#64, 0#32, 20) from if_pos h28] at hh
    dsimp only at hh
    refine fn_y Tryz.func118 Tryz.mixed ?_
    intro w0
    refine Y1 ?_
    refine Zh5 rfl ?_; intro b3
    refine Zh5 rfl ?_; intro b4
    refine Y7 ?_
    refine Zot 14 rfl (hlong) ?_
    refine Y4 ?_
    refine Zor (c := hh) (k := ?_)
    rintro _ _ ⟨rfl, rfl⟩
    refine Y12 ?_
    refine Zos 22 rfl ((by decide)) ?_
    refine Y8 ?_
    first|refine Y0 ?_|(refine Zhh rfl ?_; (refine Zhg (Zdm (cs := #[.int .u64 _, .int .u32 _, .int .u32 _, .int .u32 _]) rfl) ?_))
    first|refine Y0 ?_|(refine Zhh rfl ?_; (refine Zhg (pv_neq_UNKNOWN_struct) ?_))
    refine V7 ?_
    refine rx2 (Zhc rfl (Zg9 rfl (Zg7))) ?_
    exact ⟨_, ⟨none, 0, rfl, rfl⟩, (Imp.arr (N := L) qV).trans Imp.own_nil⟩
  have hh := pgHead_x hb hbl
  rw [show pgHeadR box = (lowB 64 (box.take 8), lowB 32 ((box.drop 8).take 4), 0) from if_neg h28] at hh
  dsimp only at hh
  have hhi := head_is p box (by omega)
  generalize lowB 64 (box.take 8) = hr at hh hhi
  generalize lowB 32 ((box.drop 8).take 4) = hc at hh hhi
  by_cases hpl : p = ⟨hr, hc, p.page, p.version⟩
  · have hfit : pgFits p box := ⟨by omega, by omega, hhi.2 (by rw [hpl]; exact ⟨rfl, rfl⟩)⟩
    refine Con.get (fun w0 w F H => hb.some (by omega) H) ?_
    rintro ⟨b0, o0, rfl⟩
    have hml := moreB_len p
    have hdl : (box.drop 12).length = box.length - 12 := List.length_drop
    have hdb : Bs L (.slice (some ⟨b0, o0 + 12, none⟩) (box.length - 12) (bc - 12)) (box.drop 12) := bs_drop hb (by omega) (by omega)
    have ho := fun ma mc => open_x (L := own 5 1 (.slice ma (moreB p).length mc) (moreB p).length ((moreB p).map u8b) :: L) key (headB p) hk (headB_len p) (Bs.own .here) (hdb.imp Imp.tail) (by omega) (by omega)
    by_cases hr2 : rightB key (headB p) (moreB p) (box.drop 12) = true
    · have e : pgOpenR key p box = (textB key (headB p) (box.drop 12), 0) := if_pos ⟨hfit, hr2⟩
      have eo : openR key (headB p) (moreB p) (box.drop 12) = (textB key (headB p) (box.drop 12), 0) := by unfold openR; rw [if_neg (by omega), if_neg (by omega), if_pos hr2]
      rw [e]
      rw [eo] at ho
      dsimp only at ho
      refine fn_y Tryz.func118 Tryz.mixed ?_
      intro w0
      refine Y1 ?_
      refine Zh5 rfl ?_; intro b3
      refine Zh5 rfl ?_; intro b4
      refine Y7 ?_
      refine Zot 14 rfl (hlong) ?_
      refine Y4 ?_
      refine Zor (c := hh) (k := ?_)
      rintro _ _ ⟨rfl, rfl⟩
      refine Y12 ?_
      refine Zot 22 rfl ((fun h => h rfl)) ?_
      refine Y8 ?_
      first|refine Y0 ?_|(refine Zhh rfl ?_; (refine Zhg (Zdm (cs := #[.int .u64 _, .int .u32 _, .int .u32 _, .int .u32 _]) rfl) ?_))
      first|refine Y0 ?_|(refine Zhh rfl ?_; (refine Zhg (pv_neq_plc p ⟨hr, hc, p.page, p.version⟩ rfl rfl) ?_))
      refine Zot 32 rfl ((fun h => h hpl)) ?_
      refine V3 ?_
      refine Zij ([cl b3 (key.map u8b).toArray 42, cl b4 (plc p) 189]) [1, 2, 3, 4] (.q 5 (.q 6 (.r 0 (.r 1 (.r 3 (.e 2 true (.e 4 true (.e 7 false (.q 8 (.q 9 (.q 10 (.q 11 (.q 12 .nil))))))))))))) (by kernel_rfl) (by kernel_rfl) (Imp.arr qV) ?_
      refine W1 ?_
      first|refine Zim rfl (Zna (l := 12) (h := box.length) rfl qB qB) ?_|refine Zim rfl (Zmz (l := 12) (h := box.length) rfl qB qB) ?_
      refine W3 ?_
      refine Ziq rfl ?_
      refine Zor (c := pghead_x p) (k := ?_)
      rintro _ _ ⟨rfl, rfl⟩
      refine Y1 ?_
      refine Zg3 ⟨fun _ => Imp.arr qV, ?_⟩
      refine Ziq rfl ?_
      refine Zor (c := pgmore_x p) (k := ?_)
      rintro _ _ ⟨ma, mc, rfl, rfl⟩
      refine Y1 ?_
      refine Zg3 ⟨fun _ => Imp.arr qV, ?_⟩
      refine Ziq rfl ?_
      refine Zor (c := ho ma mc) (k := ?_)
      rintro _ _ ⟨xa, xc, rfl, rfl⟩
      refine Y1 ?_
      refine Zg3 ⟨(fun hh => Bool.noConfusion hh), ?_⟩
      refine W6 ?_
      refine Y3 ?_
      refine Zor (c := fails_x 0) (k := ?_)
      rintro _ _ ⟨rfl, rfl⟩
      refine V8 ?_
      refine rx2 (Zhc rfl (Zg9 rfl (Zg7))) ?_
      exact ⟨_, ⟨xa, xc, rfl, rfl⟩, qI⟩
    · have e : pgOpenR key p box = ([], 120) := if_neg (fun h => hr2 h.2)
      have eo : openR key (headB p) (moreB p) (box.drop 12) = ([], 70) := by unfold openR; rw [if_neg (by omega), if_neg (by omega), if_neg hr2]
      rw [e]
      rw [eo] at ho
      dsimp only at ho
      refine fn_y Tryz.func118 Tryz.mixed ?_
      intro w0
      refine Y1 ?_
      refine Zh5 rfl ?_; intro b3
      refine Zh5 rfl ?_; intro b4
      refine Y7 ?_
      refine Zot 14 rfl (hlong) ?_
      refine Y4 ?_
      refine Zor (c := hh) (k := ?_)
      rintro _ _ ⟨rfl, rfl⟩
      refine Y12 ?_
      refine Zot 22 rfl ((fun h => h rfl)) ?_
      refine Y8 ?_
      first|refine Y0 ?_|(refine Zhh rfl ?_; (refine Zhg (Zdm (cs := #[.int .u64 _, .int .u32 _, .int .u32 _, .int .u32 _]) rfl) ?_))
      first|refine Y0 ?_|(refine Zhh rfl ?_; (refine Zhg (pv_neq_plc p ⟨hr, hc, p.page, p.version⟩ rfl rfl) ?_))
      refine Zot 32 rfl ((fun h => h hpl)) ?_
      refine V3 ?_
      refine Zij ([cl b3 (key.map u8b).toArray 42, cl b4 (plc p) 189]) [1, 2, 3, 4] (.q 5 (.q 6 (.r 0 (.r 1 (.r 3 (.e 2 true (.e 4 true (.e 7 false (.q 8 (.q 9 (.q 10 (.q 11 (.q 12 .nil))))))))))))) (by kernel_rfl) (by kernel_rfl) (Imp.arr qV) ?_
      refine W1 ?_
      first|refine Zim rfl (Zna (l := 12) (h := box.length) rfl qB qB) ?_|refine Zim rfl (Zmz (l := 12) (h := box.length) rfl qB qB) ?_
      refine W3 ?_
      refine Ziq rfl ?_
      refine Zor (c := pghead_x p) (k := ?_)
      rintro _ _ ⟨rfl, rfl⟩
      refine Y1 ?_
      refine Zg3 ⟨fun _ => Imp.arr qV, ?_⟩
      refine Ziq rfl ?_
      refine Zor (c := pgmore_x p) (k := ?_)
      rintro _ _ ⟨ma, mc, rfl, rfl⟩
      refine Y1 ?_
      refine Zg3 ⟨fun _ => Imp.arr qV, ?_⟩
      refine Ziq rfl ?_
      refine Zor (c := ho ma mc) (k := ?_)
      rintro _ _ ⟨xa, xc, rfl, rfl⟩
      refine Y1 ?_
      refine Zg3 ⟨(fun hh => Bool.noConfusion hh), ?_⟩
      refine W6 ?_
      refine Y3 ?_
      refine Zor (c := fails_x 70) (k := ?_)
      rintro _ _ ⟨rfl, rfl⟩
      refine V7 ?_
      refine rx2 (Zhc rfl (Zg9 rfl (Zg7))) ?_
      exact ⟨_, ⟨none, 0, rfl, rfl⟩, (Imp.arr (N := L) qV).trans Imp.own_nil⟩
  · rw [eno (fun h => hpl (by
      obtain ⟨h1, h2⟩ := hhi.1 h.2.2
      rw [h1, h2]))]
    refine fn_y Tryz.func118 Tryz.mixed ?_
    intro w0
    refine Y1 ?_
    refine Zh5 rfl ?_; intro b3
    refine Zh5 rfl ?_; intro b4
    refine Y7 ?_
    refine Zot 14 rfl (hlong) ?_
    refine Y4 ?_
    refine Zor (c := hh) (k := ?_)
    rintro _ _ ⟨rfl, rfl⟩
    refine Y12 ?_
    refine Zot 22 rfl ((fun h => h rfl)) ?_
    refine Y8 ?_
    first|refine Y0 ?_|(refine Zhh rfl ?_; (refine Zhg (Zdm (cs := #[.int .u64 _, .int .u32 _, .int .u32 _, .int .u32 _]) rfl) ?_))
    first|refine Y0 ?_|(refine Zhh rfl ?_; (refine Zhg (pv_neq_plc p ⟨hr, hc, p.page, p.version⟩ rfl rfl) ?_))
    refine Zos 32 rfl (hpl) ?_
    refine V7 ?_
    refine rx2 (Zhc rfl (Zg9 rfl (Zg7))) ?_
    exact ⟨_, ⟨none, 0, rfl, rfl⟩, (Imp.arr (N := L) qV).trans Imp.own_nil⟩
end Go.Sl
namespace Go.Sl
open Go Go.Proofs
attribute [local irreducible] pt old pur ex all den denOps denS xOps xC cX CX xthen xblk xcut xloop xng retX resX Calls PV Rd Con
attribute [local irreducible] hostA pcl pgSealB pgOpenR HostS.writeR HostS.readR
open PagerS (PS Over)
abbrev pgL (p : Nat) (s : PS) (c : PC) (l : List FV) : List Asrt := [cl p (pcl s c) 147, fmA c.bh (heldF l), fmA c.bl (lastF s.last), ownI c.oa c.oc (fpages l), star frA l]
structure PgOk (ph : Nat) (s : PS) (c : PC) (l : List FV) : Prop where
  ok : PagerS.Ok s
  ph : c.ph = ph
  held : s.held = l.map (·.1)
  n : c.n = (fpages l).length
def pgB (p ph : Nat) (s : PS) (t : PC × List FV) : Asrt := all (pur (PgOk ph s t.1 t.2) :: pgL p s t.1 t.2)
def pgA (p ph : Nat) (s : PS) : Asrt := ex (pgB p ph s)
section
variable {p ph : Nat} {s : PS} {L : List Asrt}
theorem pgA_mk {c : PC} {l : List FV} (h : PgOk ph s c l) : Imp (pgL p s c l ++ L) (pgA p ph s :: L) :=
  ((Imp.pur_mk h).trans (Imp.app (L := pur (PgOk ph s c l) :: pgL p s c l))).trans (Imp.head fun f h => by unfold pgA Sl.ex; exact Exists.intro (p := fun x => (pgB p ph s x).on f) (c, l) h)
theorem Con.pgA {F : FuncId} {args : List Value} {Φ : Value → List Asrt → Prop} (h : ∀ (c : PC) (l : List FV), PgOk ph s c l → Con Tryz.prog F args (pgL p s c l ++ L) Φ) : Con Tryz.prog F args (Sl.pgA p ph s :: L) Φ :=
  Con.ex fun t => Con.pre (Con.pur fun hk => h t.1 t.2 hk) (Imp.unapp (L := Sl.pur (PgOk ph s t.1 t.2) :: pgL p s t.1 t.2))
theorem x_pgA {w0 : World} {c : Code} {ρ : Env} {Q : XQ} (h : ∀ (t : PC) (l : List FV), PgOk ph s t l → xC Tryz.prog w0 c ρ (pgL p s t l ++ L) Q) : xC Tryz.prog w0 c ρ (pgA p ph s :: L) Q := by
  unfold pgA
  exact Zgr fun t => Zgs (L := pur (PgOk ph s t.1 t.2) :: pgL p s t.1 t.2) (Zgq fun hk => h t.1 t.2 hk)
end
theorem met_write (ph : Nat) : Met Tryz.prog 32 (hp ph) "Write" 294 (hp ph) := by intro w; kernel_rfl
theorem met_read (ph : Nat) : Met Tryz.prog 32 (hp ph) "Read" 292 (hp ph) := by intro w; kernel_rfl
theorem find_at {l : List FV} (hn : (fpages l).Nodup) {i : Nat} (hi : i < l.length) : (l.find? fun e => e.1.page == l[i].1.page) = some l[i] := by
  induction l generalizing i with
  | nil => simp at hi
  | cons x r ih =>
    rw [fpages, List.map_cons, List.nodup_cons] at hn
    cases i with
    | zero => simp
    | succ i =>
      have hi : i < r.length := by simpa using hi
      simp only [List.getElem_cons_succ]
      rw [List.find?_cons_of_neg (by
        simp only [beq_iff_eq]
        intro e
        exact hn.1 (e ▸ List.mem_map.2 ⟨r[i], List.getElem_mem hi, rfl⟩))]
      exact ih hn.2 hi
theorem heldF_at {l : List FV} (hn : (fpages l).Nodup) {i : Nat} (hi : i < l.length) : heldF l l[i].1.page = some (hp l[i].2.1) := by unfold heldF; rw [find_at hn hi]; rfl
theorem heldF_no {l : List FV} {n : Int} (h : n ∉ fpages l) : heldF l n = none := by
  unfold heldF
  rw [Option.map_eq_none_iff, List.find?_eq_none]
  intro e he
  simp only [beq_iff_eq]
  exact fun hh => h (hh ▸ List.mem_map.2 ⟨e, he, rfl⟩)
section
variable {ph : Nat} {s : PS} {c : PC} {l : List FV}
theorem PgOk.nodup (h : PgOk ph s c l) : (fpages l).Nodup := by
  have := h.ok.once
  unfold PagerS.numbers at this
  rw [h.held, List.map_map] at this
  exact this
theorem PgOk.fr (h : PgOk ph s c l) {i : Nat} (hi : i < l.length) : PagerS.frOf s l[i].1.page = some l[i].1 := by
  unfold PagerS.frOf
  rw [h.held, List.find?_map]
  have := find_at h.nodup hi
  simp only [Function.comp_def]
  rw [this]; rfl
theorem PgOk.none (h : PgOk ph s c l) {n : Int} (hn : n ∉ fpages l) : PagerS.frOf s n = none := by
  unfold PagerS.frOf
  rw [h.held, List.find?_eq_none]
  intro f hf
  obtain ⟨e, he, rfl⟩ := List.mem_map.1 hf
  simp only [beq_iff_eq]
  exact fun hh => hn (hh ▸ List.mem_map.2 ⟨e, he, rfl⟩)
theorem PgOk.len (h : PgOk ph s c l) : l.length ≤ 16 := by
  have := h.ok.many; have := h.ok.w1
  rw [h.held, List.length_map] at *
  omega
def wash (l : List FV) (i : Nat) (hi : i < l.length) : List FV := l.set i ({ l[i].1 with is := 1 }, l[i].2)
theorem wash_len {i : Nat} (hi : i < l.length) : (wash l i hi).length = l.length := by unfold wash; simp
theorem wash_at {i j : Nat} (hi : i < l.length) (hj : j < l.length) : (wash l i hi)[j]'(by rw [wash_len]; exact hj) = if i = j then ({ l[i].1 with is := 1 }, l[i].2) else l[j] := by
  unfold wash; rw [List.getElem_set]
theorem wash_pages {i : Nat} (hi : i < l.length) : fpages (wash l i hi) = fpages l := by
  apply List.ext_getElem (by simp [fpages, wash_len])
  intro j h1 h2
  have hj : j < l.length := by simpa [fpages] using h2
  simp only [fpages, List.getElem_map]
  rw [wash_at hi hj]
  split
  · rename_i e; subst e; rfl
  · rfl
theorem page_inj (hn : (fpages l).Nodup) {i j : Nat} (hi : i < l.length) (hj : j < l.length) (e : l[i].1.page = l[j].1.page) : i = j := by
  have h := List.pairwise_iff_getElem.1 hn
  have hi' : i < (fpages l).length := by simpa [fpages] using hi
  have hj' : j < (fpages l).length := by simpa [fpages] using hj
  have e' : (fpages l)[i] = (fpages l)[j] := by simp only [fpages, List.getElem_map]; exact e
  rcases Nat.lt_trichotomy i j with hlt|hlt|hlt
  · exact absurd e' (h i j hi' hj' hlt)
  · exact hlt
  · exact absurd e'.symm (h j i hj' hi' hlt)
theorem wash_held (h : PgOk ph s c l) {i : Nat} (hi : i < l.length) : PagerS.cleaned s.held l[i].1.page = (wash l i hi).map (·.1) := by
  rw [h.held]
  unfold PagerS.cleaned
  rw [List.map_map]
  apply List.ext_getElem (by simp [wash_len])
  intro j h1 h2
  have hj : j < l.length := by simpa using h1
  simp only [List.getElem_map, Function.comp]
  rw [wash_at hi hj]
  by_cases e : i = j
  · subst e; rw [if_pos rfl, if_pos rfl]
  · rw [if_neg e, if_neg (fun hh => e (page_inj h.nodup hj hi hh).symm)]
theorem wash_F (hn : (fpages l).Nodup) {i : Nat} (hi : i < l.length) : heldF (wash l i hi) = heldF l := by
  funext n
  by_cases hin : n ∈ fpages l
  · obtain ⟨j, hj, rfl⟩ := List.mem_iff_getElem.1 hin
    have hj' : j < l.length := by simpa [fpages] using hj
    have hnw : (fpages (wash l i hi)).Nodup := by rw [wash_pages]; exact hn
    have e1 := heldF_at hnw (i := j) (by rw [wash_len]; exact hj')
    have e2 := heldF_at hn hj'
    rw [wash_at hi hj'] at e1
    simp only [fpages, List.getElem_map]
    rw [e2]
    split at e1
    · rename_i e; subst e; exact e1
    · exact e1
  · rw [heldF_no hin, heldF_no (by rw [wash_pages]; exact hin)]
end
end Go.Sl
namespace Go.Sl
open Go Go.Proofs
attribute [local irreducible] pt old pur ex all den denOps denS xOps xC cX CX xthen xblk xcut xloop xng retX resX Calls PV Rd Con
attribute [local irreducible] hostA pcl pgSealB pgOpenR HostS.writeR HostS.readR
open PagerS (PS Over)
section
variable {s : PS} {h : HostS.HS} {n : Int}
theorem writeP_worn (hw : s.writes = 4294967295) : PagerS.writeP s h n = (130, PagerS.die s 130, h) := by unfold PagerS.writeP; rw [if_pos hw]
theorem writeP_no (hw : s.writes ≠ 4294967295) (hn : (HostS.writeR h n (PagerS.boxOf s n)).1 ≠ 0) : PagerS.writeP s h n = ((HostS.writeR h n (PagerS.boxOf s n)).1, PagerS.die s (HostS.writeR h n (PagerS.boxOf s n)).1, (HostS.writeR h n (PagerS.boxOf s n)).2) := by unfold PagerS.writeP; rw [if_neg hw]; dsimp only; rw [if_neg hn]
theorem writeP_ok (hw : s.writes ≠ 4294967295) (hn : (HostS.writeR h n (PagerS.boxOf s n)).1 = 0) : PagerS.writeP s h n = (0, PagerS.wroteP s n, (HostS.writeR h n (PagerS.boxOf s n)).2) := by unfold PagerS.writeP; rw [if_neg hw]; dsimp only; rw [if_pos hn]
theorem writeR_err (h : HostS.HS) (n : Int) (b : HostS.Bytes) : (HostS.writeR h n b).1 ≤ 1000 := by
  unfold HostS.writeR
  split
  · split
    · unfold HostS.does
      split
      · (dsimp only; omega)
      · dsimp only
        split
        · (dsimp only; omega)
        · split <;> (dsimp only; omega)
    · (dsimp only; omega)
  · (dsimp only; omega)
end
def plc0 : Plc := ⟨0#64, 0#32, 0#32, 0#32⟩
theorem last_at (s : PS) (n : Int) : ∃ op : Plc, (lastF s.last n).getD (.agg (plc plc0)) = .agg (plc op) ∧ op.version = PagerS.verOf s n := by
  unfold lastF PagerS.verOf
  cases hl : s.last n with
  | none => exact ⟨plc0, rfl, rfl⟩
  | some q => exact ⟨q, rfl, rfl⟩
theorem last_set (f : Int → Option Plc) (n : Int) (q : Plc) : fput (lastF f) n (some (.agg (plc q))) = lastF (HostS.setF f n (some q)) := by
  funext k
  unfold fput lastF HostS.setF
  split <;> rfl
theorem ofNat32_inj {a b : Nat} (ha : a < 4294967296) (hb : b < 4294967296) : BitVec.ofNat 32 a = BitVec.ofNat 32 b ↔ a = b := by
  constructor
  · intro h
    have := congrArg BitVec.toNat h
    simp only [BitVec.toNat_ofNat] at this
    omega
  · rintro rfl; rfl
section
variable {p ph : Nat} {s : PS} {h : HostS.HS}
theorem pwrite_g {c : PC} {l : List FV} (hk : PgOk ph s c l) (hov : Over s h) (hops : h.ops < 3518437208880) {i : Nat} (hi : i < l.length) :
    Con Tryz.prog 148 [hp p, .int .i64 l[i].1.page] (pgL p s c l ++ [hostA ph h]) (fun r M => r = nvv (PagerS.writeP s h l[i].1.page).1 ∧ ∃ l', PgOk ph (PagerS.writeP s h l[i].1.page).2.1 c l' ∧ M = pgL p (PagerS.writeP s h l[i].1.page).2.1 c l' ++ [hostA ph (PagerS.writeP s h l[i].1.page).2.2]) := by
  obtain rfl := hk.ph
  have hkey := hk.ok.key
  have hsz := pg_size (c := c) hkey
  have hwl := hk.ok.writes
  simp only [List.cons_append, List.nil_append]
  by_cases hw : s.writes = 4294967295
  · rw [writeP_worn hw]
    refine fn_y Tryz.func148 Tryz.mixed ?_
    intro w0
    refine Y7 ?_
    refine Zhp rfl qH (pg_f hkey (k := 8) rfl) ?_
    refine Zhg (Zky (x := BitVec.ofNat 32 s.writes) (y := 4294967295#32) rfl rfl) ?_
    refine Zos 13 rfl ((by rw [hw])) ?_
    refine Y4 ?_
    refine Zor (c := die_x hkey 130) (k := ?_)
    rintro _ _ ⟨rfl, rfl⟩
    refine V3 ?_
    refine rx1 (Zg9 rfl (Zg7)) ?_
    exact ⟨_, ⟨rfl, l, ⟨PagerS.ok_die hk.ok 130 (by omega), rfl, hk.held, hk.n⟩, rfl⟩, qI⟩
  · have hl16 := hk.len
    have hfr := hk.fr hi
    have htx : PagerS.textOf s l[i].1.page = l[i].1.text := by unfold PagerS.textOf; rw [hfr]; rfl
    have htl : l[i].1.text.length = s.text := hk.ok.len _ (by rw [hk.held]; exact List.mem_map.2 ⟨l[i], List.getElem_mem hi, rfl⟩)
    have ht1 := hk.ok.t1
    have ht0 := hk.ok.t0
    obtain ⟨op, ho1, ho2⟩ := last_at s l[i].1.page
    have hbox : PagerS.boxOf s l[i].1.page = pgSealB s.key (PagerS.nextPl s l[i].1.page) l[i].1.text := by unfold PagerS.boxOf; rw [htx]
    have hbl : (pgSealB s.key (PagerS.nextPl s l[i].1.page) l[i].1.text).length = s.text + 28 := by rw [pgSealB_len, htl]
    have hsl := pgSeal_x (L := [ownB l[i].2.2.1 l[i].2.2.2 l[i].1.text]) s.key hkey (PagerS.nextPl s l[i].1.page) (Bs.own .here) (by omega)
    rw [pgSealR_ok _ _ _ (by omega)] at hsl
    have enx : PagerS.nextPl s l[i].1.page = ⟨s.round, BitVec.ofNat 32 s.writes, BitVec.ofInt 32 l[i].1.page, op.version + 1#32⟩ := by unfold PagerS.nextPl; rw [ho2]
    have herr := writeR_err h l[i].1.page (PagerS.boxOf s l[i].1.page)
    have hwr := fun xa xc => write_x (p := c.ph) (s := h) (L := [own 5 1 (.slice xa (pgSealB s.key (PagerS.nextPl s l[i].1.page) l[i].1.text).length xc) (pgSealB s.key (PagerS.nextPl s l[i].1.page) l[i].1.text).length ((pgSealB s.key (PagerS.nextPl s l[i].1.page) l[i].1.text).map u8b)]) l[i].1.page (Bs.own .here) hops (by omega)
    rw [← hbox] at hwr hsl
    rw [← hbox] at hbl
    dsimp only at hsl
    refine fn_y Tryz.func148 Tryz.mixed ?_
    intro w0
    refine Y7 ?_
    refine Zhp rfl qH (pg_f hkey (k := 8) rfl) ?_
    refine Zhg (Zky (x := BitVec.ofNat 32 s.writes) (y := 4294967295#32) rfl rfl) ?_
    refine Zot 13 rfl ((fun hh => hw ((ofNat32_inj (by omega) (by omega)).1 hh))) ?_
    refine Y6 ?_
    refine Zhp rfl qH (pg_f hkey (k := 4) rfl) ?_
    refine Y1 ?_
    refine Zoc rfl rfl qH (v := hp l[i].2.1) (by rw [heldF_at hk.nodup hi]; rfl) ?_
    refine V2 ?_
    refine Zij ([cl p (pcl s c) 147, fmA c.bl (lastF s.last)]) [7, 13, 15, 16, 17, 19] (.q 0 (.q 1 (.q 2 (.q 4 (.q 5 (.q 6 (.q 8 (.q 9 (.q 10 (.q 11 (.q 12 (.q 14 (.r 3 (.r 7 (.r 13 (.r 15 (.r 16 (.r 17 (.q 18 (.a 19 (.e 20 false .nil))))))))))))))))))))) (by kernel_rfl) (by kernel_rfl) (Imp.arr qV) ?_
    refine W7 ?_
    refine Zim rfl (Zk6 rfl) ?_
    refine W4 ?_
    refine Ziv rfl rfl qH (pg_f hkey (k := 0) rfl) ?_
    refine Ziv rfl rfl qH (pg_f hkey (k := 8) rfl) ?_
    refine Ziv rfl rfl qH (pg_f hkey (k := 6) rfl) ?_
    refine Zod rfl rfl rfl qH (v := .agg (plc op)) (by exact ho1) ?_
    refine W1 ?_
    refine Ziz rfl (Zkn (y := 1#32) rfl rfl) ?_
    refine Zim rfl (Zdm (cs := plc ⟨s.round, BitVec.ofNat 32 s.writes, BitVec.ofInt 32 l[i].1.page, op.version + 1#32⟩) rfl) ?_
    refine Zir rfl (cs := #[u64b 0#64, u32b 0#32, u32b 0#32, u32b 0#32]) rfl ?_; intro b6
    refine Ziq rfl ?_
    first|refine Zhy rfl rfl qR qZ qN qZ ?_|refine Zhx rfl rfl qR qZ qN qZ rfl ?_
    refine Zg3 ⟨(fun hh => Bool.noConfusion hh), ?_⟩
    refine Zik ?_
    refine Ct.o ?_
    rw [← enx]
    refine Zgp (((Imp.arr (N := star frA l :: cl b6 (plc (PagerS.nextPl s l[i].1.page)) 189 :: cl p (pcl s c) 147 :: fmA c.bh (heldF l) :: fmA c.bl (lastF s.last) :: ownI c.oa c.oc (fpages l) :: [hostA c.ph h]) qV).trans (star_at hi)).trans (Imp.unapp (L := [cl l[i].2.1 #[.slice l[i].2.2.1 l[i].1.text.length l[i].2.2.2, nvv l[i].1.is] 187, ownB l[i].2.2.1 l[i].2.2.2 l[i].1.text]))) ?_
    simp only [List.cons_append, List.nil_append]
    refine Ct.o ?_
    refine Zij ([cl p (pcl s c) 147, cl b6 (plc (PagerS.nextPl s l[i].1.page)) 189, cl l[i].2.1 #[.slice l[i].2.2.1 l[i].1.text.length l[i].2.2.2, nvv l[i].1.is] 187]) [4, 8] (.q 0 (.q 1 (.q 2 (.q 5 (.q 6 (.q 7 (.r 3 (.r 4 (.r 8 (.e 9 false (.q 10 (.q 11 (.q 12 (.q 13 (.q 14 .nil))))))))))))))) (by kernel_rfl) (by kernel_rfl) (Imp.arr qV) ?_
    refine W6 ?_
    refine Zix (n := 32) rfl rfl qH qZ (pg_key hkey) ?_
    refine W2 ?_
    refine Ziq rfl ?_
    refine Zor (c := hsl) (k := ?_)
    rintro _ _ ⟨xa, xc, rfl, rfl⟩
    refine Y1 ?_
    refine Zg3 ⟨(fun hh => Bool.noConfusion hh), ?_⟩
    refine W6 ?_
    refine Y3 ?_
    refine Zos 55 rfl (rfl) ?_
    refine Y6 ?_
    refine Zhp rfl qH (pg_st) ?_
    refine Y2 ?_
    refine Znt rfl (met_write c.ph) (by kernel_rfl) (hwr xa xc) rfl qT ?_
    rintro _ _ ⟨rfl, rfl⟩
    refine V3 ?_
    by_cases h0 : (HostS.writeR h l[i].1.page (PagerS.boxOf s l[i].1.page)).1 = 0
    · rw [writeP_ok hw h0]
      refine Y3 ?_
      refine Zot 64 rfl ((fun hh => hh h0)) ?_
      refine V2 ?_
      refine Zij ([cl p (pcl s c) 147, cl b6 (plc (PagerS.nextPl s l[i].1.page)) 189]) [5] (.q 0 (.q 1 (.q 2 (.q 4 (.r 3 (.r 5 (.e 6 false .nil))))))) (by kernel_rfl) (by kernel_rfl) (Imp.arr qV) ?_
      refine W4 ?_
      refine Ziv rfl rfl qH (pg_f hkey (k := 6) rfl) ?_
      refine W1 ?_
      refine Ziq rfl ?_; refine Zof (v := .agg (plc (PagerS.nextPl s l[i].1.page))) rfl rfl rfl qR ?_; refine Zg3 ⟨(fun hh => Bool.noConfusion hh), ?_⟩
      refine Zik ?_
      refine Ct.o ?_
      rw [last_set]
      have ew : BitVec.ofNat 32 s.writes + 1#32 = BitVec.ofNat 32 (s.writes + 1) := by rw [BitVec.ofNat_add]
      refine Y4 ?_
      refine Zhp rfl qH (pg_f hkey (k := 8) rfl) ?_
      refine Zhg (Zkn (y := 1#32) rfl rfl) ?_
      refine Y2 ?_
      refine Zht rfl rfl qR qZ (pg_s (s := s) (c := c) (s' := PagerS.wroteP s l[i].1.page) (c' := c) hkey (k := 8) (by rw [ew]; rfl) rfl rfl) ?_
      refine V10 ?_
      refine rx1 (Zg9 rfl (Zg7)) ?_
      have hok := PagerS.ok_wrote hk.ok l[i].1.page (by omega)
      have hwh := wash_held hk hi
      refine ⟨_, ⟨rfl, wash l i hi, ⟨hok, rfl, hwh, by rw [wash_pages]; exact hk.n⟩, rfl⟩, ?_⟩
      rw [wash_F hk.nodup hi, wash_pages hi]
      have hst : Imp ([cl l[i].2.1 #[.slice l[i].2.2.1 l[i].1.text.length l[i].2.2.2, nvv 1] 187, ownB l[i].2.2.1 l[i].2.2.2 l[i].1.text] ++ (star frA (l.eraseIdx i) :: cl p (pcl (PagerS.wroteP s l[i].1.page) c) 147 :: fmA c.bh (heldF l) :: fmA c.bl (lastF (PagerS.wroteP s l[i].1.page).last) :: ownI c.oa c.oc (fpages l) :: [hostA c.ph (HostS.writeR h l[i].1.page (PagerS.boxOf s l[i].1.page)).2])) (star frA (wash l i hi) :: cl p (pcl (PagerS.wroteP s l[i].1.page) c) 147 :: fmA c.bh (heldF l) :: fmA c.bl (lastF (PagerS.wroteP s l[i].1.page).last) :: ownI c.oa c.oc (fpages l) :: [hostA c.ph (HostS.writeR h l[i].1.page (PagerS.boxOf s l[i].1.page)).2]) :=
        (Imp.app (L := [cl l[i].2.1 #[.slice l[i].2.2.1 l[i].1.text.length l[i].2.2.2, nvv 1] 187, ownB l[i].2.2.1 l[i].2.2.2 l[i].1.text])).trans (star_back (A := frA) hi ({ l[i].1 with is := 1 }, l[i].2))
      simp only [List.cons_append, List.nil_append] at hst
      exact ((Imp.arr qV).trans hst).trans qI
    · rw [writeP_no hw h0]
      refine Y3 ?_
      refine Zos 64 rfl (h0) ?_
      refine Y5 ?_
      refine Zor (c := die_x hkey (HostS.writeR h l[i].1.page (PagerS.boxOf s l[i].1.page)).1) (k := ?_)
      rintro _ _ ⟨rfl, rfl⟩
      refine V3 ?_
      refine rx1 (Zg9 rfl (Zg7)) ?_
      refine ⟨_, ⟨rfl, l, ⟨PagerS.ok_die hk.ok _ herr, rfl, hk.held, hk.n⟩, rfl⟩, ?_⟩
      have hst : Imp ([cl l[i].2.1 #[.slice l[i].2.2.1 l[i].1.text.length l[i].2.2.2, nvv l[i].1.is] 187, ownB l[i].2.2.1 l[i].2.2.2 l[i].1.text] ++ (star frA (l.eraseIdx i) :: cl p (pcl (PagerS.die s (HostS.writeR h l[i].1.page (PagerS.boxOf s l[i].1.page)).1) c) 147 :: fmA c.bh (heldF l) :: fmA c.bl (lastF s.last) :: ownI c.oa c.oc (fpages l) :: [hostA c.ph (HostS.writeR h l[i].1.page (PagerS.boxOf s l[i].1.page)).2])) (star frA l :: cl p (pcl (PagerS.die s (HostS.writeR h l[i].1.page (PagerS.boxOf s l[i].1.page)).1) c) 147 :: fmA c.bh (heldF l) :: fmA c.bl (lastF s.last) :: ownI c.oa c.oc (fpages l) :: [hostA c.ph (HostS.writeR h l[i].1.page (PagerS.boxOf s l[i].1.page)).2]) := by
        have hb := (Imp.app (L := [cl l[i].2.1 #[.slice l[i].2.2.1 l[i].1.text.length l[i].2.2.2, nvv l[i].1.is] 187, ownB l[i].2.2.1 l[i].2.2.2 l[i].1.text]) (M := star frA (l.eraseIdx i) :: cl p (pcl (PagerS.die s (HostS.writeR h l[i].1.page (PagerS.boxOf s l[i].1.page)).1) c) 147 :: fmA c.bh (heldF l) :: fmA c.bl (lastF s.last) :: ownI c.oa c.oc (fpages l) :: [hostA c.ph (HostS.writeR h l[i].1.page (PagerS.boxOf s l[i].1.page)).2])).trans (star_back (A := frA) hi l[i])
        rwa [List.set_getElem_self] at hb
      simp only [List.cons_append, List.nil_append] at hst
      exact ((Imp.arr qV).trans hst).trans qI
end
end Go.Sl
namespace Go.Sl
open Go Go.Proofs
attribute [local irreducible] pt old pur ex all den denOps denS xOps xC cX CX xthen xblk xcut xloop xng retX resX Calls PV Rd Con
attribute [local irreducible] hostA pcl pgSealB pgOpenR PagerS.writeP frA
open PagerS (PS Over)
theorem does_ps (h : HostS.HS) (op page : Int) (b : HostS.Bytes) (act : HostS.HS → HostS.HS) (ha : ∀ s, (act s).pages = s.pages ∧ (act s).size = s.size ∧ (act s).ops = s.ops) : (HostS.does h op page b act).1.pages = h.pages ∧ (HostS.does h op page b act).1.size = h.size ∧ (HostS.does h op page b act).1.ops ≤ h.ops + 1 := by
  have h2 := ha (HostS.logged h op page b)
  unfold HostS.does
  split
  · exact ⟨rfl, rfl, Nat.le_succ _⟩
  · dsimp only
    split
    · exact ⟨rfl, rfl, Nat.le_refl _⟩
    · split
      · exact ⟨h2.1, h2.2.1, Nat.le_of_eq h2.2.2⟩
      · exact ⟨h2.1, h2.2.1, Nat.le_of_eq h2.2.2⟩
theorem writeR_ps (h : HostS.HS) (page : Int) (b : HostS.Bytes) : (HostS.writeR h page b).2.pages = h.pages ∧ (HostS.writeR h page b).2.size = h.size ∧ (HostS.writeR h page b).2.ops ≤ h.ops + 1 := by
  unfold HostS.writeR
  split
  · split
    · exact does_ps h 1 page b _ (fun _ => ⟨rfl, rfl, rfl⟩)
    · exact ⟨rfl, rfl, Nat.le_succ _⟩
  · exact ⟨rfl, rfl, Nat.le_succ _⟩
section
variable {s : PS} {h : HostS.HS}
theorem writeP_cases (s : PS) (h : HostS.HS) (n : Int) : (PagerS.writeP s h n = (130, PagerS.die s 130, h)) ∨ (∃ e, e ≠ 0 ∧ e ≤ 1000 ∧ PagerS.writeP s h n = (e, PagerS.die s e, (HostS.writeR h n (PagerS.boxOf s n)).2)) ∨ (s.writes ≠ 4294967295 ∧ PagerS.writeP s h n = (0, PagerS.wroteP s n, (HostS.writeR h n (PagerS.boxOf s n)).2)) := by
  by_cases hw : s.writes = 4294967295
  · exact .inl (writeP_worn hw)
  · by_cases h0 : (HostS.writeR h n (PagerS.boxOf s n)).1 = 0
    · exact .inr (.inr ⟨hw, writeP_ok hw h0⟩)
    · exact .inr (.inl ⟨_, h0, writeR_err _ _ _, writeP_no hw h0⟩)
theorem writeP_over (n : Int) (ho : Over s h) : Over (PagerS.writeP s h n).2.1 (PagerS.writeP s h n).2.2 ∧ (PagerS.writeP s h n).2.2.ops ≤ h.ops + 1 := by
  obtain ⟨w1, w2, w3⟩ := writeR_ps h n (PagerS.boxOf s n)
  rcases writeP_cases s h n with e|⟨x, _, _, e⟩|⟨_, e⟩ <;> rw [e]
  · exact ⟨⟨ho.pages, ho.size⟩, Nat.le_succ _⟩
  · exact ⟨⟨w1.trans ho.pages, w2.trans ho.size⟩, w3⟩
  · exact ⟨⟨w1.trans ho.pages, w2.trans ho.size⟩, w3⟩
end
section
variable {p ph : Nat} {s : PS} {h : HostS.HS}
end
end Go.Sl
namespace Go.Sl
open Go Go.Proofs
attribute [local irreducible] pt old pur ex all den denOps denS xOps xC cX CX xthen xblk xcut xloop xng retX resX Calls PV Rd Con
attribute [local irreducible] hostA pcl pgSealB pgOpenR PagerS.writeP
open PagerS (PS Over)
theorem heldF_tail {x : FV} {r : List FV} (hn : (fpages (x :: r)).Nodup) : fput (heldF (x :: r)) x.1.page none = heldF r := by
  funext n
  unfold fput
  rw [fpages, List.map_cons, List.nodup_cons] at hn
  by_cases e : n = x.1.page
  · rw [if_pos e, e, heldF_no hn.1]
  · rw [if_neg e]
    unfold heldF
    rw [List.find?_cons_of_neg (by simp only [beq_iff_eq]; exact fun hh => e hh.symm)]
theorem pgok_tail {ph : Nat} {s : PS} {c : PC} {x : FV} {r : List FV} (h : PgOk ph s c (x :: r)) (oa : Option Addr) (oc : Nat) : PgOk ph { s with held := s.held.tail } { c with oa := oa, n := (fpages r).length, oc := oc } r :=
  ⟨PagerS.ok_tail h.ok, h.ph, by show s.held.tail = _; rw [h.held]; rfl, rfl⟩
theorem changedAt_at {ph : Nat} {s : PS} {c : PC} {l : List FV} (h : PgOk ph s c l) {i : Nat} (hi : i < l.length) : PagerS.changedAt s l[i].1.page = (l[i].1.is == 2) := by unfold PagerS.changedAt; rw [h.fr hi]; rfl
section
variable {p ph : Nat} {s : PS} {h : HostS.HS}
theorem room_x (hov : Over s h) (hops : h.ops < 3518437208880) :
    Con Tryz.prog 117 [hp p] [pgA p ph s, hostA ph h] (fun r M => r = nvv (PagerS.roomP s h).1 ∧ M = [pgA p ph (PagerS.roomP s h).2.1, hostA ph (PagerS.roomP s h).2.2]) := by
  refine Con.pgA fun c l hk => ?_
  simp only [List.cons_append, List.nil_append]
  have hkey := hk.ok.key
  have hl16 := hk.len
  have hcn := hk.n
  have hhl : s.held.length = l.length := by rw [hk.held, List.length_map]
  have hfl : (fpages l).length = l.length := by simp [fpages]
  have hwn := hk.ok.w0
  by_cases hw : l.length < s.window
  · have e : PagerS.roomP s h = (0, s, h) := by unfold PagerS.roomP; rw [if_pos (by rw [hhl]; exact hw)]
    rw [e]
    refine fn_y Tryz.func117 Tryz.mixed ?_
    intro w0
    refine V3 ?_
    refine Zij ([cl p (pcl s c) 147]) [8] (.q 0 (.q 1 (.q 2 (.q 5 (.q 6 (.q 7 (.r 3 (.q 4 (.r 8 (.q 9 .nil)))))))))) (by kernel_rfl) (by kernel_rfl) (Imp.arr qV) ?_
    refine W6 ?_
    refine Ziv rfl rfl qH (pg_f hkey (k := 5) rfl) ?_
    refine W1 ?_
    refine Ziv rfl rfl qH (pg_f hkey (k := 1) rfl) ?_
    refine W1 ?_
    refine Zou 14 rfl ((by omega)) ?_
    refine Zik ?_
    refine V4 ?_
    refine rx1 (Zg9 rfl (Zg7)) ?_
    exact ⟨_, ⟨rfl, rfl⟩, (Imp.arr (N := pgL p s c l ++ [hostA ph h]) qV).trans (pgA_mk hk)⟩
  · cases l with
    | nil => simp at hw; omega
    | cons x r =>
      have hnd := hk.nodup
      have hhd : (s.held.head?.map PagerS.Fr.page).getD 0 = x.1.page := by rw [hk.held]; rfl
      have hi0 : 0 < (x :: r).length := Nat.succ_pos _
      have hf0 := heldF_at hnd hi0
      have hca := changedAt_at hk hi0
      simp only [List.getElem_cons_zero] at hf0 hca
      refine Con.get (fun w0 w F H => own_someN (n := (fpages (x :: r)).length) (a := c.oa) (.there (.there (.there .here))) (by simp [fpages]) H) ?_
      rintro ⟨g, hg⟩
      obtain ⟨ph', bh, oa, cn, oc, bl⟩ := c
      dsimp only at hg hcn
      subst hg hcn
      obtain rfl : ph = ph' := hk.ph.symm
      refine fn_y Tryz.func117 Tryz.mixed ?_
      intro w0
      refine V3 ?_
      refine Zij ([cl p (pcl s ⟨ph, bh, some ⟨g, 0, none⟩, (fpages (x :: r)).length, oc, bl⟩) 147]) [8] (.q 0 (.q 1 (.q 2 (.q 5 (.q 6 (.q 7 (.r 3 (.q 4 (.r 8 (.q 9 .nil)))))))))) (by kernel_rfl) (by kernel_rfl) (Imp.arr qV) ?_
      refine W6 ?_
      refine Ziv rfl rfl qH (pg_f hkey (k := 5) rfl) ?_
      refine W1 ?_
      refine Ziv rfl rfl qH (pg_f hkey (k := 1) rfl) ?_
      refine W1 ?_
      refine Zov 14 rfl ((by rw [hfl]; exact hw)) ?_
      refine Zik ?_
      refine V1 ?_
      have hg0 : (zv (fpages (x :: r)))[0]? = some (.int .i64 x.1.page) := rfl
      refine Y4 ?_
      refine Zhp rfl qH (pg_f hkey (k := 5) rfl) ?_
      refine Zhg (Zl4 (n := 0) rfl rfl (by rw [hfl]; exact hi0)) ?_
      refine Zff rfl (((Rd.own (n := (fpages (x :: r)).length) qH).at0 (by rw [hfl]; exact hi0) hg0)) ?_
      refine V2 ?_
      refine Zgp (((Imp.arr (N := star frA (x :: r) :: cl p (pcl s ⟨ph, bh, some ⟨g, 0, none⟩, (fpages (x :: r)).length, oc, bl⟩) 147 :: fmA bh (heldF (x :: r)) :: fmA bl (lastF s.last) :: ownI (some ⟨g, 0, none⟩) oc (fpages (x :: r)) :: [hostA ph h]) qV).trans star_uncons).trans (Imp.unapp (L := [cl x.2.1 #[.slice x.2.2.1 x.1.text.length x.2.2.2, nvv x.1.is] 187, ownB x.2.2.1 x.2.2.2 x.1.text]))) ?_
      simp only [List.cons_append, List.nil_append]
      refine Y4 ?_
      refine Zhp rfl qH (pg_f hkey (k := 4) rfl) ?_
      refine Y1 ?_
      refine Zoc rfl rfl qH (v := hp x.2.1) (by rw [hf0]; rfl) ?_
      refine V5 ?_
      by_cases h2 : x.1.is = 2
      · refine Zge (by show Value.bool (decide _) = _; rw [decide_eq_true h2]) ?_
        refine Ct.o ?_
        refine Zgp (((Imp.arr (N := [cl x.2.1 #[.slice x.2.2.1 x.1.text.length x.2.2.2, nvv x.1.is] 187, ownB x.2.2.1 x.2.2.2 x.1.text] ++ (star frA r :: cl p (pcl s ⟨ph, bh, some ⟨g, 0, none⟩, (fpages (x :: r)).length, oc, bl⟩) 147 :: fmA bh (heldF (x :: r)) :: fmA bl (lastF s.last) :: ownI (some ⟨g, 0, none⟩) oc (fpages (x :: r)) :: [hostA ph h])) qV).trans (Imp.app (L := [cl x.2.1 #[.slice x.2.2.1 x.1.text.length x.2.2.2, nvv x.1.is] 187, ownB x.2.2.1 x.2.2.2 x.1.text]))).trans (star_cons (A := frA) (x := x) (l := r))) ?_
        have hwx := pwrite_g (p := p) hk hov hops hi0
        simp only [List.getElem_cons_zero, List.cons_append, List.nil_append] at hwx
        have hch : PagerS.changedAt s x.1.page = true := by rw [hca, h2]; rfl
        refine Y3 ?_
        refine Zor (c := hwx) (k := ?_)
        rintro _ _ ⟨rfl, l', hk', rfl⟩
        refine V3 ?_
        by_cases h0 : (PagerS.writeP s h x.1.page).1 = 0
        · have e : PagerS.roomP s h = (0, { (PagerS.writeP s h x.1.page).2.1 with held := (PagerS.writeP s h x.1.page).2.1.held.tail }, (PagerS.writeP s h x.1.page).2.2) := by
            unfold PagerS.roomP
            rw [if_neg (by rw [hhl]; exact hw)]
            dsimp only
            rw [hhd, if_pos hch, if_pos h0]
          rw [e]
          have hsame : PagerS.numbers (PagerS.writeP s h x.1.page).2.1 = PagerS.numbers s := by
            rcases writeP_cases s h x.1.page with ee|⟨_, _, _, ee⟩|⟨_, ee⟩ <;> rw [ee]
            · rfl
            · rfl
            · exact PagerS.cleaned_pages _ _
          have hfp : fpages l' = fpages (x :: r) := by
            have a1 : PagerS.numbers (PagerS.writeP s h x.1.page).2.1 = fpages l' := by unfold PagerS.numbers; rw [hk'.held, List.map_map]; rfl
            have a2 : PagerS.numbers s = fpages (x :: r) := by unfold PagerS.numbers; rw [hk.held, List.map_map]; rfl
            rw [← a1, hsame, a2]
          generalize (PagerS.writeP s h x.1.page).2.1 = s1 at hk' hsame ⊢
          generalize (PagerS.writeP s h x.1.page).2.2 = h1 at ⊢
          cases l' with
          | nil => simp [fpages] at hfp
          | cons x1 r1 =>
            have hx1 : x1.1.page = x.1.page := by simpa [fpages] using (List.cons.inj hfp).1
            have hkey1 := hk'.ok.key
            have hnd1 := hk'.nodup
            rw [← hfp]
            refine Y3 ?_
            refine Zot 35 rfl ((fun hh => hh h0)) ?_
            refine V2 ?_
            have hs1 := pg_size (s := s1) (c := ⟨ph, bh, some ⟨g, 0, none⟩, (fpages (x1 :: r1)).length, oc, bl⟩) hkey1
            refine Y5 ?_
            refine Zhp rfl qH (pg_f hkey1 (k := 5) rfl) ?_
            refine Zor (c := delete_x (g := g) (c := oc) (i := 0) (zs := fpages (x1 :: r1)) (by simp [fpages]) (by have := hk'.len; simp [fpages] at *; omega)) (k := ?_)
            rintro _ _ ⟨rfl, rfl⟩
            refine Y3 ?_
            refine Zhw rfl rfl qR qZ (pg_s (s := s1) (c := ⟨ph, bh, some ⟨g, 0, none⟩, (fpages (x1 :: r1)).length, oc, bl⟩) (s' := { s1 with held := s1.held.tail }) (c' := ⟨ph, bh, some ⟨g, 0, none⟩, (fpages r1).length, oc, bl⟩) hkey1 (k := 5) rfl rfl rfl) ?_
            refine Y5 ?_
            refine Zhp rfl qH (pg_f (s := { s1 with held := s1.held.tail }) hkey1 (k := 4) rfl) ?_
            refine Y1 ?_
            refine Zog rfl rfl qR ?_
            refine V4 ?_
            refine rx1 (Zg9 rfl (Zg7)) ?_
            rw [← hx1, heldF_tail hnd1]
            have ht := pgok_tail hk' (some ⟨g, 0, none⟩) oc
            exact ⟨_, ⟨rfl, rfl⟩, ((((Imp.arr (N := star frA (x1 :: r1) :: cl p (pcl { s1 with held := s1.held.tail } ⟨ph, bh, some ⟨g, 0, none⟩, (fpages r1).length, oc, bl⟩) 147 :: fmA bh (heldF r1) :: fmA bl (lastF s1.last) :: ownI (some ⟨g, 0, none⟩) oc (fpages r1) :: [hostA ph h1]) qV).trans star_uncons).trans Imp.tail).trans (Imp.arr (N := pgL p { s1 with held := s1.held.tail } ⟨ph, bh, some ⟨g, 0, none⟩, (fpages r1).length, oc, bl⟩ r1 ++ [hostA ph h1]) qV)).trans (pgA_mk ht)⟩
        · have e : PagerS.roomP s h = PagerS.writeP s h x.1.page := by
            unfold PagerS.roomP
            rw [if_neg (by rw [hhl]; exact hw)]
            dsimp only
            rw [hhd, if_pos hch, if_neg h0]
          rw [e]
          refine Y3 ?_
          refine Zos 35 rfl (h0) ?_
          refine V6 ?_
          refine rx1 (Zg9 rfl (Zg7)) ?_
          exact ⟨_, ⟨rfl, rfl⟩, (Imp.arr (N := pgL p (PagerS.writeP s h x.1.page).2.1 ⟨ph, bh, some ⟨g, 0, none⟩, (fpages (x :: r)).length, oc, bl⟩ l' ++ [hostA ph (PagerS.writeP s h x.1.page).2.2]) qV).trans (pgA_mk hk')⟩
      · refine Zgf (by show Value.bool (decide _) = _; rw [decide_eq_false h2]) ?_
        refine Ct.o ?_
        have hch : ¬ PagerS.changedAt s x.1.page = true := by rw [hca]; simpa using h2
        have e : PagerS.roomP s h = (0, { s with held := s.held.tail }, h) := by
          unfold PagerS.roomP
          rw [if_neg (by rw [hhl]; exact hw)]
          dsimp only
          rw [hhd, if_neg hch]
        rw [e]
        have hs1 := pg_size (s := s) (c := ⟨ph, bh, some ⟨g, 0, none⟩, (fpages (x :: r)).length, oc, bl⟩) hkey
        refine Y5 ?_
        refine Zhp rfl qH (pg_f hkey (k := 5) rfl) ?_
        refine Zor (c := delete_x (g := g) (c := oc) (i := 0) (zs := fpages (x :: r)) (by simp [fpages]) (by have := hk.len; simp [fpages] at *; omega)) (k := ?_)
        rintro _ _ ⟨rfl, rfl⟩
        refine Y3 ?_
        refine Zhw rfl rfl qR qZ (pg_s (s := s) (c := ⟨ph, bh, some ⟨g, 0, none⟩, (fpages (x :: r)).length, oc, bl⟩) (s' := { s with held := s.held.tail }) (c' := ⟨ph, bh, some ⟨g, 0, none⟩, (fpages r).length, oc, bl⟩) hkey (k := 5) rfl rfl rfl) ?_
        refine Y5 ?_
        refine Zhp rfl qH (pg_f (s := { s with held := s.held.tail }) hkey (k := 4) rfl) ?_
        refine Y1 ?_
        refine Zog rfl rfl qR ?_
        refine V4 ?_
        refine rx1 (Zg9 rfl (Zg7)) ?_
        rw [heldF_tail hnd]
        have ht := pgok_tail hk (some ⟨g, 0, none⟩) oc
        exact ⟨_, ⟨rfl, rfl⟩, (Imp.arr (N := pgL p { s with held := s.held.tail } ⟨ph, bh, some ⟨g, 0, none⟩, (fpages r).length, oc, bl⟩ r ++ [hostA ph h]) qV).trans (pgA_mk ht)⟩
end
end Go.Sl
namespace Go.Sl
open Go Go.Proofs
attribute [local irreducible] pt old pur ex all den denOps denS xOps xC cX CX xthen xblk xcut xloop xng retX resX Calls PV Rd Con
attribute [local irreducible] hostA pcl pgSealB pgOpenR PagerS.writeP
open PagerS (PS Over)
def othersF (l : List FV) (n : Int) : List FV := l.filter fun e => !(e.1.page == n)
theorem others_pages (l : List FV) (n : Int) : fpages (othersF l n) = (fpages l).filter fun z => !(z == n) := by
  unfold othersF fpages
  rw [List.filter_map]; rfl
theorem others_no {l : List FV} {n : Int} (h : n ∉ fpages l) : othersF l n = l := List.filter_eq_self.2 fun e he => by
  simp only [Bool.not_eq_true', beq_eq_false_iff_ne, ne_eq]
  exact fun hh => h (hh ▸ List.mem_map.2 ⟨e, he, rfl⟩)
theorem others_at {l : List FV} (hn : (fpages l).Nodup) {i : Nat} (hi : i < l.length) : othersF l l[i].1.page = l.eraseIdx i := by
  rw [List.eraseIdx_eq_take_drop_succ]
  have e : l = l.take i ++ (l[i] :: l.drop (i + 1)) := by rw [← List.drop_eq_getElem_cons hi, List.take_append_drop]
  have key : ∀ (A B : List FV) (x : FV), (fpages (A ++ x :: B)).Nodup → (A ++ x :: B).filter (fun e => !(e.1.page == x.1.page)) = A ++ B := by
    intro A B x h
    rw [fpages, List.map_append, List.map_cons, List.nodup_append] at h
    obtain ⟨_, h2, h3⟩ := h
    rw [List.nodup_cons] at h2
    rw [List.filter_append, List.filter_cons_of_neg (by simp)]
    rw [List.filter_eq_self.2, List.filter_eq_self.2]
    · intro e he
      simp only [Bool.not_eq_true', beq_eq_false_iff_ne, ne_eq]
      exact fun hh => h2.1 (hh ▸ List.mem_map.2 ⟨e, he, rfl⟩)
    · intro e he
      simp only [Bool.not_eq_true', beq_eq_false_iff_ne, ne_eq]
      exact fun hh => h3 _ (List.mem_map.2 ⟨e, he, rfl⟩) _ (List.mem_cons_self ..) hh
  have := key (l.take i) (l.drop (i + 1)) l[i] (by rw [← e]; exact hn)
  rw [← e] at this
  exact this
theorem heldF_use (l : List FV) (n : Int) (e : FV) (he : e.1.page = n) : heldF (othersF l n ++ [e]) = fput (heldF l) n (some (hp e.2.1)) := by
  funext k
  unfold heldF fput
  rw [List.find?_append]
  by_cases hk : k = n
  · subst hk
    rw [if_pos rfl, List.find?_eq_none.2 (by
      intro x hx
      have := (List.mem_filter.1 hx).2
      simp only [Bool.not_eq_true', beq_eq_false_iff_ne, ne_eq] at this
      simpa using this)]
    simp [he]
  · rw [if_neg hk]
    have e1 : (othersF l n).find? (fun e => e.1.page == k) = l.find? fun e => e.1.page == k := by
      unfold othersF
      rw [List.find?_filter]
      congr 1
      funext x
      by_cases hx : x.1.page = k
      · simp [hx, hk]
      · simp [hx]
    rw [e1]
    cases hf : l.find? (fun e => e.1.page == k) with
    | some x =>
      show _ = Option.map (fun e : FV => hp e.2.1) (l.find? fun e => e.1.page == k)
      rw [hf]; rfl
    | none =>
      have : ¬ e.1.page = k := fun hh => hk (by rw [← hh, he])
      show _ = Option.map (fun e : FV => hp e.2.1) (l.find? fun e => e.1.page == k)
      rw [hf]
      simp [this]
theorem used_pages (l : List FV) (n : Int) (e : FV) (he : e.1.page = n) : fpages (othersF l n ++ [e]) = used (fpages l) n := by
  unfold used
  rw [← others_pages]
  simp [fpages, he]
theorem pgok_use {ph : Nat} {s : PS} {c : PC} {l : List FV} (h : PgOk ph s c l) (e : FV) (hr : (PagerS.frOf s e.1.page).isSome = true ∨ s.held.length < s.window) (hp : 0 ≤ e.1.page ∧ e.1.page < s.pages) (hl : e.1.text.length = s.text) (hi : e.1.is ≤ 2) (oa : Option Addr) (oc : Nat) :
    PgOk ph (PagerS.useP s e.1) { c with oa := oa, n := (used (fpages l) e.1.page).length, oc := oc } (othersF l e.1.page ++ [e]) := by
  refine ⟨PagerS.ok_use h.ok hr hp hl hi, h.ph, ?_, by rw [used_pages l e.1.page e rfl]⟩
  show (s.held.filter fun g => !(g.page == e.1.page)) ++ [e.1] = _
  rw [h.held, List.filter_map, List.map_append]
  rfl
theorem used_len {ph : Nat} {s : PS} {c : PC} {l : List FV} (h : PgOk ph s c l) (e : FV) : max s.most (used (fpages l) e.1.page).length = (PagerS.useP s e.1).most := by
  show _ = max s.most ((s.held.filter fun g => !(g.page == e.1.page)) ++ [e.1]).length
  unfold used
  rw [← others_pages, h.held, List.filter_map, List.length_append, List.length_append, List.length_map]
  simp [fpages, othersF, Function.comp_def]
theorem roomP_over {s : PS} {h : HostS.HS} (ho : Over s h) : Over (PagerS.roomP s h).2.1 (PagerS.roomP s h).2.2 ∧ (PagerS.roomP s h).2.2.ops ≤ h.ops + 1 := by
  unfold PagerS.roomP
  split
  · exact ⟨ho, Nat.le_succ _⟩
  · dsimp only
    obtain ⟨w1, w2⟩ := writeP_over ((s.held.head?.map PagerS.Fr.page).getD 0) ho
    split
    · split
      · exact ⟨⟨w1.pages, w1.size⟩, w2⟩
      · exact ⟨w1, w2⟩
    · exact ⟨⟨ho.pages, ho.size⟩, Nat.le_succ _⟩
theorem writeP_same (s : PS) (h : HostS.HS) (n : Int) : PagerS.numbers (PagerS.writeP s h n).2.1 = PagerS.numbers s ∧ (PagerS.writeP s h n).2.1.window = s.window ∧ (PagerS.writeP s h n).2.1.pages = s.pages ∧ (PagerS.writeP s h n).2.1.text = s.text ∧ (PagerS.writeP s h n).2.1.key = s.key := by
  rcases writeP_cases s h n with ee|⟨_, _, _, ee⟩|⟨_, ee⟩ <;> rw [ee]
  · exact ⟨rfl, rfl, rfl, rfl, rfl⟩
  · exact ⟨rfl, rfl, rfl, rfl, rfl⟩
  · exact ⟨PagerS.cleaned_pages _ _, rfl, rfl, rfl, rfl⟩
theorem roomP_same {s : PS} {h : HostS.HS} (hk : PagerS.Ok s) : (PagerS.roomP s h).2.1.window = s.window ∧ (PagerS.roomP s h).2.1.pages = s.pages ∧ (PagerS.roomP s h).2.1.text = s.text ∧ (PagerS.roomP s h).2.1.key = s.key ∧ (∀ n, n ∉ PagerS.numbers s → n ∉ PagerS.numbers (PagerS.roomP s h).2.1) ∧ ((PagerS.roomP s h).1 = 0 → (PagerS.roomP s h).2.1.held.length < s.window) := by
  have tl : ∀ (x : PS) n, n ∉ PagerS.numbers x → n ∉ PagerS.numbers { x with held := x.held.tail } := fun x n hn hh => hn (by
    unfold PagerS.numbers at hh ⊢
    obtain ⟨f, hf, e⟩ := List.mem_map.1 hh
    exact List.mem_map.2 ⟨f, List.mem_of_mem_tail hf, e⟩)
  have hw0 := hk.w0
  have hm := hk.many
  unfold PagerS.roomP
  split
  · rename_i hl; exact ⟨rfl, rfl, rfl, rfl, fun _ h => h, fun _ => hl⟩
  · rename_i hl
    dsimp only
    obtain ⟨w1, w2, w3, w4, w5⟩ := writeP_same s h ((s.held.head?.map PagerS.Fr.page).getD 0)
    have hlen : (PagerS.writeP s h ((s.held.head?.map PagerS.Fr.page).getD 0)).2.1.held.length = s.held.length := by
      have := congrArg List.length w1
      unfold PagerS.numbers at this
      rwa [List.length_map, List.length_map] at this
    split
    · split
      · refine ⟨w2, w3, w4, w5, fun n hn => tl _ n (by rw [w1]; exact hn), fun _ => ?_⟩
        show (PagerS.writeP s h _).2.1.held.tail.length < _
        rw [List.length_tail, hlen]; omega
      · rename_i h0
        exact ⟨w2, w3, w4, w5, fun n hn => by rw [w1]; exact hn, fun hh => absurd hh h0⟩
    · refine ⟨rfl, rfl, rfl, rfl, fun n hn => tl s n hn, fun _ => ?_⟩
      show s.held.tail.length < _
      rw [List.length_tail]; omega
end Go.Sl
namespace Go.Sl
open Go Go.Proofs
attribute [local irreducible] pt old pur ex all den denOps denS xOps xC cX CX xthen xblk xcut xloop xng retX resX Calls PV Rd Con
attribute [local irreducible] hostA pcl pgSealB pgOpenR PagerS.writeP PagerS.roomP
open PagerS (PS Over)
theorem spoilt_len {h : HostS.HS} (hk : HostS.Ok h) (n : Int) (l : List HostS.Fault) : (HostS.spoilt h n l).length = h.size := by
  unfold HostS.spoilt
  have : ∀ (l : List HostS.Fault) (b : HostS.Bytes), b.length = h.size → (l.foldl (HostS.spoil1 h n) b).length = h.size := by
    intro l
    induction l with
    | nil => intro b hb; exact hb
    | cons f r ih =>
      intro b hb
      rw [List.foldl_cons]
      refine ih _ ?_
      unfold HostS.spoil1
      split
      · split
        · simpa using hb
        · exact hb
      · split
        · exact back_len hk _ _
        · split
          · split
            · exact back_len hk _ _
            · exact hb
          · exact hb
  exact this l _ (back_len hk _ _)
theorem readR_len {h : HostS.HS} (hk : HostS.Ok h) {n : Int} (hz : (HostS.readR h n).2.1 = 0) : (HostS.readR h n).1.length = h.size := by
  unfold HostS.readR at hz ⊢
  split
  · rename_i ht
    rw [if_pos ht] at hz
    dsimp only at hz ⊢
    split
    · exact spoilt_len hk _ _
    · rename_i h0; rw [if_neg h0] at hz; exact absurd hz h0
  · rename_i ht
    rw [if_neg ht] at hz; cases hz
theorem readR_err2 (h : HostS.HS) (n : Int) : (HostS.readR h n).2.1 ≤ 1000 := by
  unfold HostS.readR
  split
  · dsimp only
    split
    · dsimp only; omega
    · dsimp only
      unfold HostS.does
      split
      · (dsimp only; omega)
      · dsimp only
        split
        · (dsimp only; omega)
        · split <;> (dsimp only; omega)
  · dsimp only; omega
section
variable {p ph : Nat} {s : PS} {h : HostS.HS}
theorem pg_small {F : FuncId} {args : List Value} {v : Value} (hc : ∀ c : PC, s.key.length = 32 → Con Tryz.prog F args [cl p (pcl s c) 147] (fun r M => r = v ∧ M = [cl p (pcl s c) 147])) : Con Tryz.prog F args [pgA p ph s] (fun r M => r = v ∧ M = [pgA p ph s]) :=
  Con.pgA (L := []) fun c l hk => ((hc c hk.ok.key).frame (L := [fmA c.bh (heldF l), fmA c.bl (lastF s.last), ownI c.oa c.oc (fpages l), star frA l])).mono fun r M ⟨M', ⟨h1, h2⟩, h3⟩ => by subst h2 h3; exact ⟨_, pgA_mk hk (L := []), h1, rfl⟩
theorem right_p (n : Int) : Con Tryz.prog 116 [hp p, .int .i64 n] [pgA p ph s] (fun r M => r = nvv (PagerS.rightP s n) ∧ M = [pgA p ph s]) := pg_small fun c hk => right_x hk n
theorem pages_p : Con Tryz.prog 75 [hp p] [pgA p ph s] (fun r M => r = .int .i64 s.pages ∧ M = [pgA p ph s]) := pg_small fun c hk => pPages_x hk
theorem text_p : Con Tryz.prog 74 [hp p] [pgA p ph s] (fun r M => r = nvv s.text ∧ M = [pgA p ph s]) := pg_small fun c hk => pText_x hk
theorem pg_used {c : PC} {l : List FV} {L : List Asrt} (hk : PgOk ph s c l) (e : FV) (hr : (PagerS.frOf s e.1.page).isSome = true ∨ s.held.length < s.window) (hpp : 0 ≤ e.1.page ∧ e.1.page < s.pages) (hl : e.1.text.length = s.text) (hi : e.1.is ≤ 2) (oa : Option Addr) (oc : Nat) :
    Imp (cl p (pcl { s with most := max s.most (used (fpages l) e.1.page).length } { c with oa := oa, n := (used (fpages l) e.1.page).length, oc := oc }) 147 :: fmA c.bh (fput (heldF l) e.1.page (some (hp e.2.1))) :: fmA c.bl (lastF s.last) :: ownI oa oc (used (fpages l) e.1.page) :: star frA (othersF l e.1.page) :: frA e :: L) (pgA p ph (PagerS.useP s e.1) :: L) := by
  have hk' := pgok_use hk e hr hpp hl hi oa oc
  have hm := used_len hk e
  rw [hm, ← heldF_use l e.1.page e rfl, ← used_pages l e.1.page e rfl]
  rw [← used_pages l e.1.page e rfl] at hk'
  have h1 : Imp (frA e :: star frA (othersF l e.1.page) :: (cl p (pcl { s with most := (PagerS.useP s e.1).most } { c with oa := oa, n := (fpages (othersF l e.1.page ++ [e])).length, oc := oc }) 147 :: fmA c.bh (heldF (othersF l e.1.page ++ [e])) :: fmA c.bl (lastF s.last) :: ownI oa oc (fpages (othersF l e.1.page ++ [e])) :: L)) (star frA (othersF l e.1.page ++ [e]) :: (cl p (pcl { s with most := (PagerS.useP s e.1).most } { c with oa := oa, n := (fpages (othersF l e.1.page ++ [e])).length, oc := oc }) 147 :: fmA c.bh (heldF (othersF l e.1.page ++ [e])) :: fmA c.bl (lastF s.last) :: ownI oa oc (fpages (othersF l e.1.page ++ [e])) :: L)) := star_snoc
  have h2 : Imp (pgL p (PagerS.useP s e.1) { c with oa := oa, n := (fpages (othersF l e.1.page ++ [e])).length, oc := oc } (othersF l e.1.page ++ [e]) ++ L) (pgA p ph (PagerS.useP s e.1) :: L) := pgA_mk hk'
  have h3 : pcl { s with most := (PagerS.useP s e.1).most } { c with oa := oa, n := (fpages (othersF l e.1.page ++ [e])).length, oc := oc } = pcl (PagerS.useP s e.1) { c with oa := oa, n := (fpages (othersF l e.1.page ++ [e])).length, oc := oc } := by with_unfolding_all rfl
  rw [h3] at h1 ⊢
  exact ((Imp.arr qV).trans h1).trans ((Imp.arr qV).trans h2)
theorem frA_mk {e : FV} {L : List Asrt} : Imp (cl e.2.1 #[.slice e.2.2.1 e.1.text.length e.2.2.2, nvv e.1.is] 187 :: ownB e.2.2.1 e.2.2.2 e.1.text :: L) (frA e :: L) := Imp.app (L := [cl e.2.1 #[.slice e.2.2.1 e.1.text.length e.2.2.2, nvv e.1.is] 187, ownB e.2.2.1 e.2.2.2 e.1.text])
theorem frA_open {e : FV} {L : List Asrt} : Imp (frA e :: L) (cl e.2.1 #[.slice e.2.2.1 e.1.text.length e.2.2.2, nvv e.1.is] 187 :: ownB e.2.2.1 e.2.2.2 e.1.text :: L) := Imp.unapp (L := [cl e.2.1 #[.slice e.2.2.1 e.1.text.length e.2.2.2, nvv e.1.is] 187, ownB e.2.2.1 e.2.2.2 e.1.text])
theorem held_lt {c : PC} {l : List FV} (hk : PgOk ph s c l) {n : Int} (hn : n ∈ fpages l) : ∃ i, ∃ hi : i < l.length, l[i].1.page = n := by
  obtain ⟨i, hi, e⟩ := List.mem_iff_getElem.1 hn
  have hi' : i < l.length := by simpa [fpages] using hi
  exact ⟨i, hi', by rw [← e]; simp [fpages]⟩
theorem numbers_f {c : PC} {l : List FV} (hk : PgOk ph s c l) : PagerS.numbers s = fpages l := by
  unfold PagerS.numbers
  rw [hk.held, List.map_map]; rfl
end
end Go.Sl
namespace Go.Sl
open Go Go.Proofs
attribute [local irreducible] pt old pur ex all den denOps denS xOps xC cX CX xthen xblk xcut xloop xng retX resX Calls PV Rd Con
attribute [local irreducible] hostA pcl pgSealB pgOpenR PagerS.writeP PagerS.roomP HostS.readR
open PagerS (PS Over)
section
variable {p ph : Nat} {s : PS} {h : HostS.HS}
theorem load_x (hov : Over s h) (hops : h.ops + 1 < 3518437208880) (n : Int) :
    Con Tryz.prog 81 [hp p, .int .i64 n] [pgA p ph s, hostA ph h] (fun r M => ∃ a c, r = .tuple #[.slice a (PagerS.loadP s h n).1.1.length c, nvv (PagerS.loadP s h n).1.2] ∧ M = [ownB a c (PagerS.loadP s h n).1.1, pgA p ph (PagerS.loadP s h n).2.1, hostA ph (PagerS.loadP s h n).2.2]) := by
  by_cases hr : PagerS.rightP s n = 0
  · obtain ⟨hr0, hr1⟩ : s.err = 0 ∧ 0 ≤ n ∧ n < s.pages := by
      unfold PagerS.rightP at hr
      split at hr
      · rename_i he; exact absurd hr he
      · rename_i he
        split at hr
        · cases hr
        · rename_i hpp; exact ⟨by omega, by omega, by omega⟩
    refine Con.pgA fun c l hk => ?_
    refine Con.pre ?_ (pgA_mk hk)
    by_cases hin : n ∈ fpages l
    · obtain ⟨i, hi, rfl⟩ := held_lt hk hin
      have e : PagerS.loadP s h l[i].1.page = ((l[i].1.text, 0), PagerS.useP s l[i].1, h) := by
        unfold PagerS.loadP
        rw [if_pos hr, hk.fr hi]
      rw [e]
      refine fn_y Tryz.func81 Tryz.mixed ?_
      intro w0
      refine Y7 ?_
      refine Zor (c := right_p l[i].1.page) (k := ?_)
      rintro _ _ ⟨rfl, rfl⟩
      refine Y6 ?_
      refine Zot 17 rfl (fun hh => hh hr) ?_
      refine V2 ?_
      refine x_pgA fun c l' hk' => ?_
      simp only [List.cons_append, List.nil_append]
      obtain ⟨j, hj, ej⟩ := held_lt hk' (n := l[i].1.page) (by rw [← numbers_f hk', numbers_f hk]; exact hin)
      have hfr : l'[j].1 = l[i].1 := by
        have e1 := hk'.fr hj
        rw [ej, hk.fr hi] at e1
        exact (Option.some.inj e1).symm
      rw [← hfr]
      have htl : l'[j].1.text.length = s.text := hk'.ok.len _ (by rw [hk'.held]; exact List.mem_map.2 ⟨l'[j], List.getElem_mem hj, rfl⟩)
      have his : l'[j].1.is ≤ 2 := hk'.ok.is _ (by rw [hk'.held]; exact List.mem_map.2 ⟨l'[j], List.getElem_mem hj, rfl⟩)
      have hr2 := hr1
      rw [← ej] at hr2 hr
      have hat := others_at hk'.nodup hj
      have hkey := hk'.ok.key
      refine Y4 ?_
      refine Zhp rfl qH (pg_f hkey (k := 4) rfl) ?_
      refine Y1 ?_
      refine Zoc rfl rfl qH (v := hp l'[j].2.1) (by rw [heldF_at hk'.nodup hj]; rfl) ?_
      refine Y5 ?_
      refine Zhn 26 rfl (rfl) ?_
      refine Y6 ?_
      refine Zor (c := use_x hk'.ok.key (zs := fpages l') (by rw [show (fpages l').length = l'.length by simp [fpages]]; exact hk'.len) hk'.nodup (F := heldF l') l'[j].1.page (l'[j].2.1) (by have := hk'.ok.most; have := hk'.ok.w1; omega) hk'.n) (k := ?_)
      rintro _ _ ⟨oa', oc', rfl⟩
      refine V2 ?_
      refine Zgp (((Imp.arr (N := star frA l' :: cl p (pcl { s with most := max s.most (used (fpages l') l'[j].1.page).length } { c with oa := oa', n := (used (fpages l') l'[j].1.page).length, oc := oc' }) 147 :: fmA c.bh (fput (heldF l') l'[j].1.page (some (hp l'[j].2.1))) :: fmA c.bl (lastF s.last) :: ownI oa' oc' (used (fpages l') l'[j].1.page) :: [hostA ph h]) qV).trans (star_at hj)).trans frA_open) ?_
      refine Y5 ?_
      refine Zor (c := cloneB_x (L := [ownB (l'[j].2.2.1) (l'[j].2.2.2) l'[j].1.text]) (Rd.own .here) (by have := hk'.ok.t1; omega)) (k := ?_)
      rintro _ _ ⟨a', c', rfl, rfl⟩
      refine V4 ?_
      refine rx2 (Zhc rfl (Zg9 rfl (Zg7))) ?_
      have hpk := pg_used (p := p) (L := [hostA ph h]) hk' l'[j] (.inl (by rw [hk'.fr hj]; rfl)) hr2 htl his oa' oc'
      rw [hat] at hpk
      refine ⟨_, ⟨a', c', rfl, rfl⟩, ?_⟩
      exact (Imp.arr (N := ownB a' c' l'[j].1.text :: cl l'[j].2.1 #[.slice l'[j].2.2.1 l'[j].1.text.length l'[j].2.2.2, nvv l'[j].1.is] 187 :: ownB l'[j].2.2.1 l'[j].2.2.2 l'[j].1.text :: star frA (l'.eraseIdx j) :: cl p (pcl { s with most := max s.most (used (fpages l') l'[j].1.page).length } { c with oa := oa', n := (used (fpages l') l'[j].1.page).length, oc := oc' }) 147 :: fmA c.bh (fput (heldF l') l'[j].1.page (some (hp l'[j].2.1))) :: fmA c.bl (lastF s.last) :: ownI oa' oc' (used (fpages l') l'[j].1.page) :: [hostA ph h]) qV).trans (Imp.cons ((frA_mk.trans (Imp.arr qV)).trans hpk))
    · have hno := hk.none hin
      have hnn : n ∉ PagerS.numbers s := by rw [numbers_f hk]; exact hin
      obtain ⟨ro1, ro2⟩ := roomP_over hov
      obtain ⟨rs1, rs2, rs3, rs4, rs5, rs6⟩ := roomP_same (h := h) hk.ok
      have hops1 : (PagerS.roomP s h).2.2.ops < 3518437208880 := by omega
      refine fn_y Tryz.func81 Tryz.mixed ?_
      intro w0
      refine Y7 ?_
      refine Zor (c := right_p n) (k := ?_)
      rintro _ _ ⟨rfl, rfl⟩
      refine Y6 ?_
      refine Zot 17 rfl (fun hh => hh hr) ?_
      refine V2 ?_
      refine x_pgA fun c l hk => ?_
      simp only [List.cons_append, List.nil_append]
      have hin : n ∉ fpages l := by rw [← numbers_f hk]; exact hnn
      have hkey := hk.ok.key
      refine Y4 ?_
      refine Zhp rfl qH (pg_f hkey (k := 4) rfl) ?_
      refine Y1 ?_
      refine Zoc rfl rfl qH (v := .pointer none) (by rw [heldF_no hin]; rfl) ?_
      refine Y5 ?_
      refine Zhm 26 rfl (rfl) ?_
      refine V2 ?_
      refine Zgp ((Imp.arr (N := pgL p s c l ++ [hostA ph h]) qV).trans (pgA_mk hk)) ?_
      refine Y2 ?_
      refine Zor (c := room_x hov (by omega)) (k := ?_)
      rintro _ _ ⟨rfl, rfl⟩
      refine V3 ?_
      by_cases hz : (PagerS.roomP s h).1 = 0
      · refine Y3 ?_
        refine Zot 30 rfl (fun hh => hh hz) ?_
        refine V2 ?_
        have e : PagerS.loadP s h n = PagerS.fetchP (PagerS.roomP s h).2.1 (PagerS.roomP s h).2.2 n := by
          unfold PagerS.loadP
          rw [if_pos hr, hno]
          dsimp only
          rw [if_pos hz]
        rw [e]
        have hroom := rs6 hz
        rw [← rs1] at hroom
        have hnn1 := rs5 n hnn
        rw [← rs2] at hr1
        generalize (PagerS.roomP s h).2.1 = s1 at *
        generalize (PagerS.roomP s h).2.2 = h1 at *
        refine Y1 ?_
        refine Zhg (Zdm (cs := #[.slice none 0 0, .int .i64 0]) (by kernel_rfl)) ?_
        refine Zh5 rfl ?_; intro b33
        refine V2 ?_
        refine Zgp (Imp.arr (N := pgA p ph s1 :: cl b33 #[.slice none 0 0, nvv 0] 187 :: [hostA ph h1]) qV) ?_
        refine x_pgA fun c l hk => ?_
        simp only [List.cons_append, List.nil_append]
        have hin : n ∉ fpages l := by rw [← numbers_f hk]; exact hnn1
        have hkey := hk.ok.key
        have hoth := others_no hin
        obtain rfl := hk.ph
        cases hl : s1.last n with
        | none =>
          have e : PagerS.fetchP s1 h1 n = ((List.replicate s1.text 0#8, 0), PagerS.useP s1 ⟨n, List.replicate s1.text 0#8, 0⟩, h1) := by unfold PagerS.fetchP; rw [hl]
          rw [e]
          refine Y4 ?_
          refine Zhp rfl qH (pg_f hkey (k := 6) rfl) ?_
          refine Y1 ?_
          refine Zoe rfl rfl qH (v := .agg (plc plc0)) (t := false) (by unfold lastF; rw [hl]; rfl) (by unfold lastF; rw [hl]; rfl) ?_
          refine Y3 ?_
          refine Zhz (cs := #[u64b 0#64, u32b 0#32, u32b 0#32, u32b 0#32]) rfl ?_; intro b9
          first|refine Zhy rfl rfl qR qZ qN qZ ?_|refine Zhx rfl rfl qR qZ qN qZ rfl ?_
          refine V6 ?_
          have htx0 := hk.ok.t0
          have htx1 := hk.ok.t1
          refine Y5 ?_
          refine Zhp rfl qH (pg_f hkey (k := 3) rfl) ?_
          refine Zm3 (f := u8b) (a := 0#8) rfl rfl rfl qS qS qS ?_; intro b81
          refine V4 ?_
          have hrl : (List.replicate s1.text 0#8).length = s1.text := List.length_replicate ..
          refine Zgp ((Imp.arr (N := cl b81 ((List.replicate s1.text 0#8).map u8b).toArray 5 :: cl b33 #[.slice (some ⟨b81, 0, none⟩) s1.text s1.text, nvv 0] 187 :: pgL p s1 c l ++ [hostA c.ph h1]) qV).trans (Imp.own_mk (E := 5) (size := 1) (n := (List.replicate s1.text 0#8).length) (cap := s1.text) (xs := (List.replicate s1.text 0#8).map u8b) (by simp) (by omega) (by simp) (by simp))) ?_
          simp only [List.cons_append, List.nil_append]
          have hcl : cl b33 #[.slice (some ⟨b81, 0, none⟩) s1.text s1.text, nvv 0] 187 = cl b33 #[.slice (some ⟨b81, 0, none⟩) (List.replicate s1.text 0#8).length s1.text, nvv 0] 187 := by rw [hrl]
          rw [hcl]
          refine Y4 ?_
          refine Zor (c := use_x hk.ok.key (zs := fpages l) (by rw [show (fpages l).length = l.length by simp [fpages]]; exact hk.len) hk.nodup (F := heldF l) n (b33) (by have := hk.ok.most; have := hk.ok.w1; omega) hk.n) (k := ?_)
          rintro _ _ ⟨oa', oc', rfl⟩
          refine Y7 ?_
          refine Zor (c := cloneB_x (L := [ownB (some ⟨b81, 0, none⟩) (s1.text) (List.replicate s1.text 0#8)]) (Rd.own .here) (by have := hk.ok.t1; omega)) (k := ?_)
          rintro _ _ ⟨a', c', rfl, rfl⟩
          refine V4 ?_
          refine rx2 (Zhc rfl (Zg9 rfl (Zg7))) ?_
          have hpk := pg_used (p := p) (L := [hostA c.ph h1]) hk ((⟨n, List.replicate s1.text 0#8, 0⟩, b33, some ⟨b81, 0, none⟩, s1.text) : FV) (.inr hroom) hr1 (by simp) (by dsimp only; omega) oa' oc'
          dsimp only at hpk
          rw [hoth] at hpk
          refine ⟨_, ⟨a', c', rfl, rfl⟩, ?_⟩
          exact (Imp.arr (N := ownB a' c' (List.replicate s1.text 0#8) :: cl b33 #[.slice (some ⟨b81, 0, none⟩) (List.replicate s1.text 0#8).length (s1.text), nvv 0] 187 :: ownB (some ⟨b81, 0, none⟩) (s1.text) (List.replicate s1.text 0#8) :: star frA l :: cl p (pcl { s1 with most := max s1.most (used (fpages l) n).length } { c with oa := oa', n := (used (fpages l) n).length, oc := oc' }) 147 :: fmA c.bh (fput (heldF l) n (some (hp b33))) :: fmA c.bl (lastF s1.last) :: ownI oa' oc' (used (fpages l) n) :: [hostA c.ph h1]) qV).trans (Imp.cons ((((frA_mk (e := ((⟨n, List.replicate s1.text 0#8, 0⟩, b33, some ⟨b81, 0, none⟩, s1.text) : FV))).trans (Imp.arr qV))).trans hpk))
        | some pl =>
          refine Y4 ?_
          refine Zhp rfl qH (pg_f hkey (k := 6) rfl) ?_
          refine Y1 ?_
          refine Zoe rfl rfl qH (v := .agg (plc pl)) (t := true) (by unfold lastF; rw [hl]; rfl) (by unfold lastF; rw [hl]; rfl) ?_
          refine Y3 ?_
          refine Zhz (cs := #[u64b 0#64, u32b 0#32, u32b 0#32, u32b 0#32]) rfl ?_; intro b9
          first|refine Zhy rfl rfl qR qZ qN qZ ?_|refine Zhx rfl rfl qR qZ qN qZ rfl ?_
          refine V6 ?_
          refine Zgt (fun F w H => host_ok qH H) ?_
          intro hho
          have herr := readR_err2 h1 n
          refine Y4 ?_
          refine Zhp rfl qH (pg_st) ?_
          refine Y1 ?_
          refine Znt rfl (met_read c.ph) (by kernel_rfl) (read_x (p := c.ph) n hops1) rfl qT ?_
          rintro _ _ ⟨xa, xc, rfl, rfl⟩
          refine V7 ?_
          by_cases h0 : (HostS.readR h1 n).2.1 = 0
          · have hbl := readR_len hho h0
            have hsz := ro1.size
            have hpz := pg_size (c := c) hkey
            have htx1 := hk.ok.t1
            have hop := fun xa xc => pgOpen_x (L := [ownB xa xc (HostS.readR h1 n).1]) s1.key hkey pl (Bs.own .here) (by omega)
            refine Y3 ?_
            refine Zos 54 rfl (h0) ?_
            refine V2 ?_
            refine Zij ([cl p (pcl s1 c) 147, cl b9 (plc pl) 189, cl b33 #[.slice none 0 0, nvv 0] 187]) [5] (.q 0 (.q 1 (.q 2 (.q 3 (.q 6 (.r 4 (.r 5 (.e 7 false (.q 8 (.q 9 (.q 10 (.q 11 (.q 12 (.e 13 false (.q 14 .nil))))))))))))))) (by kernel_rfl) (by kernel_rfl) (Imp.arr qV) ?_
            refine W5 ?_
            refine Zix (n := 32) rfl rfl qH qZ (pg_key hkey) ?_
            refine W1 ?_
            refine Ziq rfl ?_
            refine Zor (c := hop xa xc) (k := ?_)
            rintro _ _ ⟨ya, yc, rfl, rfl⟩
            refine Y1 ?_
            refine Zg3 ⟨(fun hh => Bool.noConfusion hh), ?_⟩
            refine W5 ?_
            refine Ziq rfl ?_
            refine Y1 ?_
            refine Zg3 ⟨(fun hh => Bool.noConfusion hh), ?_⟩
            refine W2 ?_
            refine Ct.o ?_
            by_cases h2 : (pgOpenR s1.key pl (HostS.readR h1 n).1).2 = 0
            · have e : PagerS.fetchP s1 h1 n = (((pgOpenR s1.key pl (HostS.readR h1 n).1).1, 0), PagerS.useP s1 ⟨n, (pgOpenR s1.key pl (HostS.readR h1 n).1).1, 1⟩, (HostS.readR h1 n).2.2) := by
                unfold PagerS.fetchP
                rw [hl]
                dsimp only
                rw [if_pos h0, if_pos h2]
              rw [e]
              refine Y3 ?_
              refine Zot 69 rfl (fun hh => hh h2) ?_
              refine V8 ?_
              have hot : (pgOpenR s1.key pl (HostS.readR h1 n).1).1.length = s1.text := by
                have := pg_form s1.key pl (HostS.readR h1 n).1 (by
                  by_cases hh : pgOpens s1.key pl (HostS.readR h1 n).1
                  · exact hh
                  · rw [pgOpenR_not _ _ _ hh] at h2; cases h2)
                omega
              refine Y4 ?_
              refine Zor (c := use_x hk.ok.key (zs := fpages l) (by rw [show (fpages l).length = l.length by simp [fpages]]; exact hk.len) hk.nodup (F := heldF l) n (b33) (by have := hk.ok.most; have := hk.ok.w1; omega) hk.n) (k := ?_)
              rintro _ _ ⟨oa', oc', rfl⟩
              refine Y7 ?_
              refine Zor (c := cloneB_x (L := [ownB (ya) (yc) ((pgOpenR s1.key pl (HostS.readR h1 n).1).1)]) (Rd.own .here) (by have := hk.ok.t1; omega)) (k := ?_)
              rintro _ _ ⟨a', c', rfl, rfl⟩
              refine V4 ?_
              refine rx2 (Zhc rfl (Zg9 rfl (Zg7))) ?_
              have hpk := pg_used (p := p) (L := [hostA c.ph (HostS.readR h1 n).2.2]) hk ((⟨n, (pgOpenR s1.key pl (HostS.readR h1 n).1).1, 1⟩, b33, ya, yc) : FV) (.inr hroom) hr1 hot (by dsimp only; omega) oa' oc'
              dsimp only at hpk
              rw [hoth] at hpk
              refine ⟨_, ⟨a', c', rfl, rfl⟩, ?_⟩
              exact (Imp.arr (N := ownB a' c' ((pgOpenR s1.key pl (HostS.readR h1 n).1).1) :: cl b33 #[.slice (ya) ((pgOpenR s1.key pl (HostS.readR h1 n).1).1).length (yc), nvv 1] 187 :: ownB (ya) (yc) ((pgOpenR s1.key pl (HostS.readR h1 n).1).1) :: star frA l :: cl p (pcl { s1 with most := max s1.most (used (fpages l) n).length } { c with oa := oa', n := (used (fpages l) n).length, oc := oc' }) 147 :: fmA c.bh (fput (heldF l) n (some (hp b33))) :: fmA c.bl (lastF s1.last) :: ownI oa' oc' (used (fpages l) n) :: [hostA c.ph (HostS.readR h1 n).2.2]) qV).trans (Imp.cons ((((frA_mk (e := ((⟨n, (pgOpenR s1.key pl (HostS.readR h1 n).1).1, 1⟩, b33, ya, yc) : FV))).trans (Imp.arr qV))).trans hpk))
            · have e : PagerS.fetchP s1 h1 n = (([], (pgOpenR s1.key pl (HostS.readR h1 n).1).2), PagerS.die s1 (pgOpenR s1.key pl (HostS.readR h1 n).1).2, (HostS.readR h1 n).2.2) := by
                unfold PagerS.fetchP
                rw [hl]
                dsimp only
                rw [if_pos h0, if_neg h2]
              rw [e]
              have hbig : (pgOpenR s1.key pl (HostS.readR h1 n).1).2 ≤ 1000 := by
                with_unfolding_all unfold pgOpenR
                split <;> simp
              refine Y3 ?_
              refine Zos 69 rfl (h2) ?_
              refine Y5 ?_
              refine Zor (c := die_x hkey (pgOpenR s1.key pl (HostS.readR h1 n).1).2) (k := ?_)
              rintro _ _ ⟨rfl, rfl⟩
              refine V4 ?_
              refine rx2 (Zhc rfl (Zg9 rfl (Zg7))) ?_
              have hkd : PgOk c.ph (PagerS.die s1 (pgOpenR s1.key pl (HostS.readR h1 n).1).2) c l := ⟨PagerS.ok_die hk.ok _ hbig, rfl, hk.held, hk.n⟩
              exact ⟨_, ⟨none, 0, rfl, rfl⟩, ((Imp.arr (N := pgL p (PagerS.die s1 (pgOpenR s1.key pl (HostS.readR h1 n).1).2) c l ++ [hostA c.ph (HostS.readR h1 n).2.2]) qV).trans (pgA_mk hkd)).trans Imp.own_nil⟩
          · have e : PagerS.fetchP s1 h1 n = (([], (HostS.readR h1 n).2.1), PagerS.die s1 (HostS.readR h1 n).2.1, (HostS.readR h1 n).2.2) := by
              unfold PagerS.fetchP
              rw [hl]
              dsimp only
              rw [if_neg h0]
            rw [e]
            refine Y3 ?_
            refine Zot 54 rfl (h0) ?_
            refine Y5 ?_
            refine Zos 69 rfl (h0) ?_
            refine Y5 ?_
            refine Zor (c := die_x hkey (HostS.readR h1 n).2.1) (k := ?_)
            rintro _ _ ⟨rfl, rfl⟩
            refine V4 ?_
            refine rx2 (Zhc rfl (Zg9 rfl (Zg7))) ?_
            have hkd : PgOk c.ph (PagerS.die s1 (HostS.readR h1 n).2.1) c l := ⟨PagerS.ok_die hk.ok _ herr, rfl, hk.held, hk.n⟩
            exact ⟨_, ⟨none, 0, rfl, rfl⟩, ((Imp.arr (N := pgL p (PagerS.die s1 (HostS.readR h1 n).2.1) c l ++ [hostA c.ph (HostS.readR h1 n).2.2]) qV).trans (pgA_mk hkd)).trans Imp.own_nil⟩
      · have e : PagerS.loadP s h n = (([], (PagerS.roomP s h).1), (PagerS.roomP s h).2) := by
          unfold PagerS.loadP
          rw [if_pos hr, hno]
          dsimp only
          rw [if_neg hz]
        rw [e]
        refine Y3 ?_
        refine Zos 30 rfl (hz) ?_
        refine V7 ?_
        refine rx2 (Zhc rfl (Zg9 rfl (Zg7))) ?_
        exact ⟨_, ⟨none, 0, rfl, rfl⟩, (Imp.arr (N := [pgA p ph (PagerS.roomP s h).2.1, hostA ph (PagerS.roomP s h).2.2]) qV).trans Imp.own_nil⟩
  · have e : PagerS.loadP s h n = (([], PagerS.rightP s n), s, h) := by unfold PagerS.loadP; rw [if_neg hr]
    rw [e]
    refine fn_y Tryz.func81 Tryz.mixed ?_
    intro w0
    refine Y7 ?_
    refine Zor (c := right_p n) (k := ?_)
    rintro _ _ ⟨rfl, rfl⟩
    refine Y6 ?_
    refine Zos 17 rfl (hr) ?_
    refine V7 ?_
    refine rx2 (Zhc rfl (Zg9 rfl (Zg7))) ?_
    exact ⟨_, ⟨none, 0, rfl, rfl⟩, (Imp.arr (N := [pgA p ph s, hostA ph h]) qV).trans Imp.own_nil⟩
end
end Go.Sl
namespace Go.Sl
open Go Go.Proofs
attribute [local irreducible] pt old pur ex all den denOps denS xOps xC cX CX xthen xblk xcut xloop xng retX resX Calls PV Rd Con
attribute [local irreducible] hostA pcl pgSealB pgOpenR PagerS.writeP PagerS.roomP HostS.readR
open PagerS (PS Over)
section
variable {p ph : Nat} {s : PS} {h : HostS.HS} {L : List Asrt}
theorem rightP_zero {n : Int} (hr : PagerS.rightP s n = 0) : s.err = 0 ∧ 0 ≤ n ∧ n < s.pages := by
  unfold PagerS.rightP at hr
  split at hr
  · rename_i he; exact absurd hr he
  · rename_i he
    split at hr
    · cases hr
    · rename_i hpp; exact ⟨by omega, by omega, by omega⟩
theorem save_x (hov : Over s h) (hops : h.ops + 1 < 3518437208880) (n : Int) {tv : Value} {t : List Byte} (ht : Bs L tv t) :
    Con Tryz.prog 82 [hp p, .int .i64 n, tv] (pgA p ph s :: hostA ph h :: L) (fun r M => r = nvv (PagerS.saveP s h n t).1 ∧ M = pgA p ph (PagerS.saveP s h n t).2.1 :: hostA ph (PagerS.saveP s h n t).2.2 :: L) := by
  refine Con.get (fun w0 w F H => ht.sh _ _ _ (H.enx (Imp.tail.trans Imp.tail))) ?_
  rintro ⟨ta, tc, rfl, htc, htcm⟩
  by_cases hr : PagerS.rightP s n = 0
  · obtain ⟨hr0, hr1⟩ := rightP_zero hr
    refine Con.pgA fun c l hk => ?_
    refine Con.pre ?_ (pgA_mk hk)
    have ht1 := hk.ok.t1
    by_cases htl : t.length = s.text
    · by_cases hin : n ∈ fpages l
      · obtain ⟨i, hi, rfl⟩ := held_lt hk hin
        have e : PagerS.saveP s h l[i].1.page t = (0, PagerS.useP s ⟨l[i].1.page, t, 2⟩, h) := by
          unfold PagerS.saveP
          rw [if_pos hr, if_pos htl, hk.fr hi]
        rw [e]
        refine fn_y Tryz.func82 Tryz.mixed ?_
        intro w0
        refine Y6 ?_
        refine Zor (c := right_p l[i].1.page) (k := ?_)
        rintro _ _ ⟨rfl, rfl⟩
        refine Y6 ?_
        refine Zot 13 rfl (fun hh => hh hr) ?_
        refine V2 ?_
        refine x_pgA fun c l' hk' => ?_
        simp only [List.cons_append, List.nil_append]
        obtain ⟨j, hj, ej⟩ := held_lt hk' (n := l[i].1.page) (by rw [← numbers_f hk', numbers_f hk]; exact hin)
        rw [← ej] at hr1 hr
        rw [← ej]
        have hkey := hk'.ok.key
        refine Y6 ?_
        refine Zhp rfl qH (pg_f hkey (k := 3) rfl) ?_
        refine Y1 ?_
        refine Zot 21 rfl (fun hh => hh htl) ?_
        refine Y6 ?_
        refine Zhp rfl qH (pg_f hkey (k := 4) rfl) ?_
        refine Y1 ?_
        refine Zoc rfl rfl qH (v := hp l'[j].2.1) (by rw [heldF_at hk'.nodup hj]; rfl) ?_
        refine Y1 ?_
        refine Zhn 28 rfl (rfl) ?_
        refine Y6 ?_
        refine Zor (c := cloneB_x (L := L) ht.rd (by omega)) (k := ?_)
        rintro _ _ ⟨xa, xc, rfl, rfl⟩
        refine Y1 ?_
        refine Zhg (Zdm (cs := #[.slice _ _ _, .int .i64 2]) rfl) ?_
        refine Zh5 rfl ?_; intro b39
        refine Zor (c := use_x hk'.ok.key (zs := fpages l') (by rw [show (fpages l').length = l'.length by simp [fpages]]; exact hk'.len) hk'.nodup (F := heldF l') (l'[j].1.page) b39 (by have := hk'.ok.most; have := hk'.ok.w1; omega) hk'.n) (k := ?_)
        rintro _ _ ⟨oa', oc', rfl⟩
        refine V5 ?_
        refine rx1 (Zg9 rfl (Zg7)) ?_
        have hat := others_at hk'.nodup hj
        have hpk := pg_used (p := p) (L := hostA ph h :: L) hk' ((⟨l'[j].1.page, t, 2⟩, b39, xa, xc) : FV) (.inl (by dsimp only; rw [hk'.fr hj]; rfl)) hr1 htl (by dsimp only; omega) oa' oc'
        dsimp only at hpk
        rw [hat] at hpk
        refine ⟨_, ⟨rfl, rfl⟩, ?_⟩
        exact ((Imp.arr (N := star frA l' :: cl b39 #[.slice xa t.length xc, nvv 2] 187 :: ownB xa xc t :: cl p (pcl { s with most := max s.most (used (fpages l') l'[j].1.page).length } { c with oa := oa', n := (used (fpages l') l'[j].1.page).length, oc := oc' }) 147 :: fmA c.bh (fput (heldF l') l'[j].1.page (some (hp b39))) :: fmA c.bl (lastF s.last) :: ownI oa' oc' (used (fpages l') l'[j].1.page) :: hostA ph h :: L) qV).trans ((star_at hj).trans Imp.tail)).trans (((Imp.arr (N := cl b39 #[.slice xa t.length xc, nvv 2] 187 :: ownB xa xc t :: star frA (l'.eraseIdx j) :: cl p (pcl { s with most := max s.most (used (fpages l') l'[j].1.page).length } { c with oa := oa', n := (used (fpages l') l'[j].1.page).length, oc := oc' }) 147 :: fmA c.bh (fput (heldF l') l'[j].1.page (some (hp b39))) :: fmA c.bl (lastF s.last) :: ownI oa' oc' (used (fpages l') l'[j].1.page) :: hostA ph h :: L) qV).trans (frA_mk (e := ((⟨l'[j].1.page, t, 2⟩, b39, xa, xc) : FV)))).trans ((Imp.arr qV).trans hpk))
      · have hno := hk.none hin
        have hnn : n ∉ PagerS.numbers s := by rw [numbers_f hk]; exact hin
        obtain ⟨ro1, ro2⟩ := roomP_over hov
        obtain ⟨rs1, rs2, rs3, rs4, rs5, rs6⟩ := roomP_same (h := h) hk.ok
        refine fn_y Tryz.func82 Tryz.mixed ?_
        intro w0
        refine Y6 ?_
        refine Zor (c := right_p n) (k := ?_)
        rintro _ _ ⟨rfl, rfl⟩
        refine Y6 ?_
        refine Zot 13 rfl (fun hh => hh hr) ?_
        refine V2 ?_
        refine x_pgA fun c l hk => ?_
        simp only [List.cons_append, List.nil_append]
        have hin : n ∉ fpages l := by rw [← numbers_f hk]; exact hnn
        have hkey := hk.ok.key
        refine Y6 ?_
        refine Zhp rfl qH (pg_f hkey (k := 3) rfl) ?_
        refine Y1 ?_
        refine Zot 21 rfl (fun hh => hh htl) ?_
        refine Y6 ?_
        refine Zhp rfl qH (pg_f hkey (k := 4) rfl) ?_
        refine Y1 ?_
        refine Zoc rfl rfl qH (v := .pointer none) (by rw [heldF_no hin]; rfl) ?_
        refine Y1 ?_
        refine Zhm 28 rfl (rfl) ?_
        refine V2 ?_
        refine Zgp ((Imp.arr (N := pgL p s c l ++ (hostA ph h :: L)) qV).trans (pgA_mk hk)) ?_
        refine Y2 ?_
        refine Zor (c := room_x hov (by omega)) (k := ?_)
        rintro _ _ ⟨rfl, rfl⟩
        refine V3 ?_
        by_cases hz : (PagerS.roomP s h).1 = 0
        · have e : PagerS.saveP s h n t = (0, PagerS.useP (PagerS.roomP s h).2.1 ⟨n, t, 2⟩, (PagerS.roomP s h).2.2) := by
            unfold PagerS.saveP
            rw [if_pos hr, if_pos htl, hno]
            dsimp only
            rw [if_pos hz]
          rw [e]
          refine Y3 ?_
          refine Zot 32 rfl (fun hh => hh hz) ?_
          refine V2 ?_
          have hroom := rs6 hz
          rw [← rs1] at hroom
          have hnn1 := rs5 n hnn
          rw [← rs2] at hr1
          have htl1 : t.length = (PagerS.roomP s h).2.1.text := htl.trans rs3.symm
          generalize (PagerS.roomP s h).2.1 = s1 at *
          generalize (PagerS.roomP s h).2.2 = h1 at *
          refine Zgp (Imp.arr (N := pgA p ph s1 :: hostA ph h1 :: L) qV) ?_
          refine x_pgA fun c l' hk' => ?_
          simp only [List.cons_append, List.nil_append]
          have hin : n ∉ fpages l' := by rw [← numbers_f hk']; exact hnn1
          have hkey := hk'.ok.key
          have hoth := others_no hin
          refine Y4 ?_
          refine Zor (c := cloneB_x (L := L) ht.rd (by omega)) (k := ?_)
          rintro _ _ ⟨xa, xc, rfl, rfl⟩
          refine Y1 ?_
          refine Zhg (Zdm (cs := #[.slice _ _ _, .int .i64 2]) rfl) ?_
          refine Zh5 rfl ?_; intro b39
          refine Zor (c := use_x hk'.ok.key (zs := fpages l') (by rw [show (fpages l').length = l'.length by simp [fpages]]; exact hk'.len) hk'.nodup (F := heldF l') (n) b39 (by have := hk'.ok.most; have := hk'.ok.w1; omega) hk'.n) (k := ?_)
          rintro _ _ ⟨oa', oc', rfl⟩
          refine V5 ?_
          refine rx1 (Zg9 rfl (Zg7)) ?_
          have hpk := pg_used (p := p) (L := hostA ph h1 :: L) hk' ((⟨n, t, 2⟩, b39, xa, xc) : FV) (.inr hroom) hr1 htl1 (by dsimp only; omega) oa' oc'
          dsimp only at hpk
          rw [hoth] at hpk
          refine ⟨_, ⟨rfl, rfl⟩, ?_⟩
          exact ((Imp.arr (N := cl b39 #[.slice xa t.length xc, nvv 2] 187 :: ownB xa xc t :: star frA l' :: cl p (pcl { s1 with most := max s1.most (used (fpages l') n).length } { c with oa := oa', n := (used (fpages l') n).length, oc := oc' }) 147 :: fmA c.bh (fput (heldF l') n (some (hp b39))) :: fmA c.bl (lastF s1.last) :: ownI oa' oc' (used (fpages l') n) :: hostA ph h1 :: L) qV).trans (frA_mk (e := ((⟨n, t, 2⟩, b39, xa, xc) : FV)))).trans ((Imp.arr qV).trans hpk)
        · have e : PagerS.saveP s h n t = PagerS.roomP s h := by
            unfold PagerS.saveP
            rw [if_pos hr, if_pos htl, hno]
            dsimp only
            rw [if_neg hz]
          rw [e]
          refine Y3 ?_
          refine Zos 32 rfl (hz) ?_
          refine V6 ?_
          refine rx1 (Zg9 rfl (Zg7)) ?_
          exact ⟨_, ⟨rfl, rfl⟩, qI⟩
    · have e : PagerS.saveP s h n t = (4, s, h) := by
        unfold PagerS.saveP
        rw [if_pos hr, if_neg htl]
      rw [e]
      refine fn_y Tryz.func82 Tryz.mixed ?_
      intro w0
      refine Y6 ?_
      refine Zor (c := right_p n) (k := ?_)
      rintro _ _ ⟨rfl, rfl⟩
      refine Y6 ?_
      refine Zot 13 rfl (fun hh => hh hr) ?_
      refine V2 ?_
      refine x_pgA fun c l hk => ?_
      simp only [List.cons_append, List.nil_append]
      have hkey := hk.ok.key
      refine Y6 ?_
      refine Zhp rfl qH (pg_f hkey (k := 3) rfl) ?_
      refine Y1 ?_
      refine Zos 21 rfl (htl) ?_
      refine V5 ?_
      refine rx1 (Zg9 rfl (Zg7)) ?_
      exact ⟨_, ⟨rfl, rfl⟩, (Imp.arr (N := pgL p s c l ++ (hostA ph h :: L)) qV).trans (pgA_mk hk)⟩
  · have e : PagerS.saveP s h n t = (PagerS.rightP s n, s, h) := by unfold PagerS.saveP; rw [if_neg hr]
    rw [e]
    refine fn_y Tryz.func82 Tryz.mixed ?_
    intro w0
    refine Y6 ?_
    refine Zor (c := right_p n) (k := ?_)
    rintro _ _ ⟨rfl, rfl⟩
    refine Y6 ?_
    refine Zos 13 rfl (hr) ?_
    refine V6 ?_
    refine rx1 (Zg9 rfl (Zg7)) ?_
    exact ⟨_, ⟨rfl, rfl⟩, qI⟩
end
end Go.Sl
namespace Go.Sl
open Go
theorem fill_seg {pl : Nat → Option (Nat × Nat)} {A B C V : List Value} {cs : Array Value} {i o n : Nat} {v : Value} {rest : List (Nat × Value)} (hp : pl i = some (o, n)) (ho : o = A.length) (hn : n = B.length) (hv : v.cells.toList = V) (hl : V.length = B.length) (k : Instr.fill pl (A ++ (V ++ C)).toArray rest = some cs) : Instr.fill pl (A ++ (B ++ C)).toArray ((i, v) :: rest) = some cs := by
  subst ho hn hv
  exact fill_part (z' := (A ++ (v.cells.toList ++ C)).toArray) hp (by rw [← hl]; simp) (by simp) (wr_mid A B C _ _ rfl hl) k
theorem fill_tl {pl : Nat → Option (Nat × Nat)} {H T T' : List Value} {cs : Array Value} {i o k : Nat} {v : Value} {rest : List (Nat × Value)} (hp : pl i = some (o, 1)) (ho : o = H.length + k) (hk : k < T.length) (hv : v.cells = #[v]) (hT : T.set k v = T') (hh : Instr.fill pl (H ++ T').toArray rest = some cs) : Instr.fill pl (H ++ T).toArray ((i, v) :: rest) = some cs := by
  subst ho hT
  refine fill_part (z' := (H ++ T.set k v).toArray) hp (by rw [hv]; rfl) (by simp; omega) ?_ hh
  rw [hv]
  apply Array.ext'
  rw [wr_toList _ _ _ (by simp; omega)]
  simp [List.take_append, List.drop_append, List.set_eq_take_append_cons_drop, hk]
  rw [List.take_of_length_le (by omega), List.drop_of_length_le (by omega), show H.length + k + 1 - H.length = k + 1 by omega]; rfl
theorem Zol {P : Program} {ρ : Env} {T E : Nat} {x : Operand} {a : Option Addr} [hs : TyPtr P T E] (hx : ev ρ x = .pointer a) : PV P (.makeInterface T x) ρ (.iface T (.pointer a)) := by
  intro oo w ho; unfold execOp; rw [ho]; refine op_run_value ?_; rw [hx]
  unfold Instr.makeInterface
  rw [run_bind P _ _ w w _ (run_under hs.h)]; rfl
end Go.Sl
namespace Go.Sl
open Go Go.Proofs
attribute [local irreducible] pt old pur ex all den denOps denS xOps xC cX CX xthen xblk xcut xloop xng retX resX Calls PV Rd Con
attribute [local irreducible] hostA pgSealB pgOpenR PagerS.writeP PagerS.roomP HostS.readR
open PagerS (PS Over)
theorem met_pages (ph : Nat) : Met Tryz.prog 32 (hp ph) "Pages" 291 (hp ph) := by intro w; kernel_rfl
theorem met_size (ph : Nat) : Met Tryz.prog 32 (hp ph) "Size" 293 (hp ph) := by intro w; kernel_rfl
abbrev ptail0 : List Value := [.int .u64 0, .int .i64 0, .int .i64 0, .int .i64 0, .map none, .slice none 0 0, .map none, .int .i64 0, .int .u32 0, .int .i64 0]
abbrev ptailN (round : BitVec 64) (window pages : Int) (text : Nat) (bh bl : Nat) : List Value := [u64b round, .int .i64 window, .int .i64 pages, nvv text, .map (some bh), .slice none 0 0, .map (some bl), .int .i64 0, .int .u32 0, .int .i64 0]
theorem newp_fill {pl : Nat → Option (Nat × Nat)} {ph : Nat} {key : List Byte} {round : BitVec 64} {window pages : Int} {text bh bl : Nat} (hk : key.length = 32) (h0 : pl 0 = some (0, 1)) (h1 : pl 1 = some (1, 32)) (h2 : pl 2 = some (33, 1)) (h3 : pl 3 = some (34, 1)) (h4 : pl 4 = some (35, 1)) (h5 : pl 5 = some (36, 1)) (h6 : pl 6 = some (37, 1)) (h8 : pl 8 = some (39, 1)) :
    Instr.fill pl ([] ++ ([Value.nilIface] ++ (List.replicate 32 (Value.int .u8 0) ++ ptail0))).toArray [(0, stV ph), (1, .agg (key.map u8b).toArray), (2, u64b round), (3, .int .i64 window), (4, .int .i64 pages), (5, nvv text), (6, .map (some bh)), (8, .map (some bl))] = some ((stV ph :: key.map u8b) ++ ptailN round window pages text bh bl).toArray := by
  refine fill_seg (V := [stV ph]) h0 rfl rfl rfl rfl ?_
  refine fill_seg (A := [stV ph]) (V := key.map u8b) h1 rfl (by simp) (by simp [Value.cells]) (by simp [hk]) ?_
  have hh : (stV ph :: key.map u8b).length = 33 := by simp [hk]
  refine fill_tl (H := stV ph :: key.map u8b) (k := 0) h2 (by omega) (by decide) rfl rfl ?_
  refine fill_tl (k := 1) h3 (by omega) (by simp) rfl rfl ?_
  refine fill_tl (k := 2) h4 (by omega) (by simp) rfl rfl ?_
  refine fill_tl (k := 3) h5 (by omega) (by simp) rfl rfl ?_
  refine fill_tl (k := 4) h6 (by omega) (by simp) rfl rfl ?_
  refine fill_tl (k := 6) h8 (by omega) (by simp) rfl rfl ?_
  exact fill_end
section
variable {ph : Nat} {h : HostS.HS}
def newR (h : HostS.HS) (window : Int) : Nat := if window < 2 ∨ 16 < window then 2 else if h.size ≤ 28 then 5 else 0
theorem new_x {key : List Byte} (hk : key.length = 32) (round : BitVec 64) (window : Int) :
    Con Tryz.prog 21 [stV ph, .agg (key.map u8b).toArray, u64b round, .int .i64 window] [hostA ph h] (fun r M => (newR h window = 0 ∧ ∃ p, r = .tuple #[hp p, nvv 0] ∧ M = [pgA p ph (PagerS.freshP key round window.toNat h.pages (h.size - 28)), hostA ph h] ∧ PagerS.Ok (PagerS.freshP key round window.toNat h.pages (h.size - 28)) ∧ Over (PagerS.freshP key round window.toNat h.pages (h.size - 28)) h) ∨ (newR h window ≠ 0 ∧ r = .tuple #[.pointer none, nvv (newR h window)] ∧ M = [hostA ph h])) := by
  refine Con.get (fun w0 w F H => host_ok qH H) ?_
  intro hho
  unfold newR
  by_cases hw1 : window < 2
  · rw [if_pos (.inl hw1)]
    refine fn_y Tryz.func21 Tryz.mixed ?_
    intro w0
    refine Y1 ?_
    refine Zh5 rfl ?_; intro b5
    refine Y5 ?_
    refine Zhg (Zbn (b := 2) rfl rfl) ?_
    refine Zos 13 rfl (hw1) ?_
    refine V10 ?_
    refine rx2 (Zhb rfl (Zg9 rfl (Zg7))) ?_
    exact ⟨_, .inr ⟨by omega, rfl, rfl⟩, qI⟩
  by_cases hw2 : 16 < window
  · rw [if_pos (.inr hw2)]
    refine fn_y Tryz.func21 Tryz.mixed ?_
    intro w0
    refine Y1 ?_
    refine Zh5 rfl ?_; intro b5
    refine Y5 ?_
    refine Zhg (Zbn (b := 2) rfl rfl) ?_
    refine Zot 13 rfl (hw1) ?_
    refine Y2 ?_
    first|refine Y0 ?_|(refine Zhh rfl ?_; (refine Zhg (Zbp (b := 16) rfl rfl) ?_))
    refine Zos 16 rfl (hw2) ?_
    refine V7 ?_
    refine rx2 (Zhb rfl (Zg9 rfl (Zg7))) ?_
    exact ⟨_, .inr ⟨by omega, rfl, rfl⟩, qI⟩
  rw [if_neg (show ¬ (window < 2 ∨ 16 < window) by omega)]
  have hp0 := hho.p0
  have hp1 := hho.p1
  have hz0 := hho.z0
  have hz1 := hho.z1
  by_cases hz : h.size ≤ 28
  · rw [if_pos hz]
    refine fn_y Tryz.func21 Tryz.mixed ?_
    intro w0
    refine Y1 ?_
    refine Zh5 rfl ?_; intro b5
    refine Y5 ?_
    refine Zhg (Zbn (b := 2) rfl rfl) ?_
    refine Zot 13 rfl (hw1) ?_
    refine Y2 ?_
    first|refine Y0 ?_|(refine Zhh rfl ?_; (refine Zhg (Zbp (b := 16) rfl rfl) ?_))
    refine Zot 16 rfl (hw2) ?_
    refine Y5 ?_
    refine Znt rfl (met_pages ph) (by kernel_rfl) (pages_x) rfl qT ?_
    rintro _ _ ⟨rfl, rfl⟩
    refine Y2 ?_
    refine Znt rfl (met_size ph) (by kernel_rfl) (size_x) rfl qT ?_
    rintro _ _ ⟨rfl, rfl⟩
    refine Y6 ?_
    refine Zhg (Zbn (b := 0) rfl rfl) ?_
    refine Zot 23 rfl ((show ¬ h.pages < 0 by omega)) ?_
    refine Y2 ?_
    first|refine Y0 ?_|(refine Zhh rfl ?_; (refine Zhg (Zbp (b := 65536) rfl rfl) ?_))
    refine Zot 26 rfl ((show ¬ h.pages > 65536 by omega)) ?_
    refine Y3 ?_
    first|refine Y0 ?_|(refine Zhh rfl ?_; (refine Zhg (Zmg (b := 28) rfl rfl) ?_))
    refine Zos 30 rfl (hz) ?_
    refine V11 ?_
    refine rx2 (Zhb rfl (Zg9 rfl (Zg7))) ?_
    exact ⟨_, .inr ⟨by omega, rfl, rfl⟩, qI⟩
  · rw [if_neg hz]
    have hok : PagerS.Ok (PagerS.freshP key round window.toNat h.pages (h.size - 28)) := PagerS.ok_fresh hk (by omega) (by omega) (by omega)
    have hov : Over (PagerS.freshP key round window.toNat h.pages (h.size - 28)) h := ⟨rfl, by show h.size = h.size - 28 + 28; omega⟩
    refine fn_y Tryz.func21 Tryz.mixed ?_
    intro w0
    refine Y1 ?_
    refine Zh5 rfl ?_; intro b5
    refine Y5 ?_
    refine Zhg (Zbn (b := 2) rfl rfl) ?_
    refine Zot 13 rfl (hw1) ?_
    refine Y2 ?_
    first|refine Y0 ?_|(refine Zhh rfl ?_; (refine Zhg (Zbp (b := 16) rfl rfl) ?_))
    refine Zot 16 rfl (hw2) ?_
    refine Y5 ?_
    refine Znt rfl (met_pages ph) (by kernel_rfl) (pages_x) rfl qT ?_
    rintro _ _ ⟨rfl, rfl⟩
    refine Y2 ?_
    refine Znt rfl (met_size ph) (by kernel_rfl) (size_x) rfl qT ?_
    rintro _ _ ⟨rfl, rfl⟩
    refine Y6 ?_
    refine Zhg (Zbn (b := 0) rfl rfl) ?_
    refine Zot 23 rfl ((show ¬ h.pages < 0 by omega)) ?_
    refine Y2 ?_
    first|refine Y0 ?_|(refine Zhh rfl ?_; (refine Zhg (Zbp (b := 65536) rfl rfl) ?_))
    refine Zot 26 rfl ((show ¬ h.pages > 65536 by omega)) ?_
    refine Y3 ?_
    first|refine Y0 ?_|(refine Zhh rfl ?_; (refine Zhg (Zmg (b := 28) rfl rfl) ?_))
    refine Zot 30 rfl (hz) ?_
    refine Y3 ?_
    first|refine Y0 ?_|(refine Zhh rfl ?_; (refine Zhg (Zmh (b := 4124) rfl rfl) ?_))
    refine Zot 34 rfl ((show ¬ 4124 < h.size by omega)) ?_
    refine V3 ?_
    have e0 : window = ((window.toNat : Nat) : Int) := by omega
    refine Y7 ?_
    refine Zhg (Zmb (b := 28) rfl rfl (by omega) (by omega)) ?_
    refine Zoh ?_; intro bh
    refine Zoh ?_; intro bl
    refine Zhg (Zdm (cs := ((stV ph :: key.map u8b) ++ ptailN round window h.pages (h.size - 28) bh bl).toArray) (newp_fill hk rfl rfl rfl rfl rfl rfl rfl rfl)) ?_
    refine Zh5 rfl ?_; intro b46
    refine V3 ?_
    have ec : ((stV ph :: key.map u8b) ++ ptailN round window h.pages (h.size - 28) bh bl).toArray = pcl (PagerS.freshP key round window.toNat h.pages (h.size - 28)) ⟨ph, bh, none, 0, 0, bl⟩ := by
      unfold pcl
      show ((stV ph :: key.map u8b) ++ ptailN round window h.pages (h.size - 28) bh bl).toArray = ((stV ph :: key.map u8b) ++ [u64b round, .int .i64 ((window.toNat : Nat) : Int), .int .i64 h.pages, nvv (h.size - 28), .map (some bh), .slice none 0 0, .map (some bl), nvv 0, u32b (BitVec.ofNat 32 0), nvv 0]).toArray
      rw [← e0]; rfl
    rw [ec]
    refine rx2 (Zhb rfl (Zg9 rfl (Zg7))) ?_
    refine ⟨_, .inl ⟨rfl, b46, rfl, rfl, hok, hov⟩, ?_⟩
    have hkk : PgOk ph (PagerS.freshP key round window.toNat h.pages (h.size - 28)) ⟨ph, bh, none, 0, 0, bl⟩ [] := ⟨hok, rfl, rfl, rfl⟩
    have e1 : (fun _ => none : Int → Option Value) = heldF [] := rfl
    have e2 : (fun _ => none : Int → Option Value) = lastF (fun _ => none) := rfl
    have h1 : Imp (fmA bh (heldF []) :: fmA bl (lastF (fun _ => none)) :: cl b46 (pcl (PagerS.freshP key round window.toNat h.pages (h.size - 28)) ⟨ph, bh, none, 0, 0, bl⟩) 147 :: [hostA ph h]) (pgA b46 ph (PagerS.freshP key round window.toNat h.pages (h.size - 28)) :: [hostA ph h]) :=
      ((Imp.own_nil (E := 3) (size := 1)).trans (star_nil (A := frA))).trans ((Imp.arr (N := pgL b46 (PagerS.freshP key round window.toNat h.pages (h.size - 28)) ⟨ph, bh, none, 0, 0, bl⟩ [] ++ [hostA ph h]) qV).trans (pgA_mk hkk))
    rw [e2] at *
    exact (Imp.arr qV).trans h1
theorem pnew_ok {key : List Byte} (hk : key.length = 32) (round : BitVec 64) {window : Int} (hz : newR h window = 0) : Con Tryz.prog 21 [stV ph, .agg (key.map u8b).toArray, u64b round, .int .i64 window] [hostA ph h] (fun r M => ∃ p, r = .tuple #[hp p, nvv 0] ∧ M = [pgA p ph (PagerS.freshP key round window.toNat h.pages (h.size - 28)), hostA ph h]) :=
  (new_x hk round window).mono fun r M hh => by
    rcases hh with ⟨_, p, h1, h2, _, _⟩|⟨hn, _⟩
    · exact ⟨M, Imp.refl _, p, h1, h2⟩
    · exact absurd hz hn
end
end Go.Sl
namespace Go.Sl
open Go Go.Proofs
attribute [local irreducible] pt old pur ex all den denOps denS xOps xC cX CX xthen xblk xcut xloop xng retX resX Calls PV Rd Con
attribute [local irreducible] hostA pgA
open SlotS (SL Acc Fit)
def accs (x : Acc) : List Value := [.int .i64 x.1, .int .i64 x.2.1, .int .i64 x.2.2]
theorem accs_len (x : Acc) : (accs x).length = 3 := rfl
theorem acc_one (x : Acc) : (accs x).all oneC = true := rfl
theorem acc_ones (l : List Acc) : (l.flatMap accs).all oneC = true := by
  rw [List.all_eq_true]
  intro v hv
  obtain ⟨f, _, hv⟩ := List.mem_flatMap.1 hv
  exact List.all_eq_true.1 (acc_one f) v hv
abbrev slc (pp : Nat) (s : SL) (a : Option Addr) (c : Nat) : Array Value := #[hp pp, nvv s.first, nvv s.n, nvv s.size, nvv s.per, .slice a s.log.length c]
abbrev ownAcc (a : Option Addr) (c : Nat) (l : List Acc) : Asrt := own 151 3 (.slice a l.length c) l.length (l.flatMap accs)
abbrev slL (q pp : Nat) (s : SL) (a : Option Addr) (c : Nat) : List Asrt := [cl q (slc pp s a c) 137, ownAcc a c s.log]
def slB (q pp : Nat) (s : SL) (t : Option Addr × Nat) : Asrt := all (slL q pp s t.1 t.2)
def slA (q pp : Nat) (s : SL) : Asrt := ex (slB q pp s)
section
variable {q pp : Nat} {s : SL} {L : List Asrt}
theorem slA_mk {a : Option Addr} {c : Nat} : Imp (slL q pp s a c ++ L) (slA q pp s :: L) :=
  (Imp.app (L := slL q pp s a c)).trans (Imp.head fun f h => by unfold slA Sl.ex; exact Exists.intro (p := fun x => (slB q pp s x).on f) (a, c) h)
theorem Con.slA {F : FuncId} {args : List Value} {Φ : Value → List Asrt → Prop} (h : ∀ (a : Option Addr) (c : Nat), Con Tryz.prog F args (slL q pp s a c ++ L) Φ) : Con Tryz.prog F args (Sl.slA q pp s :: L) Φ :=
  Con.ex fun t => Con.pre (h t.1 t.2) (Imp.unapp (L := slL q pp s t.1 t.2))
end
section
variable {q pp : Nat} {s : SL} {a : Option Addr} {c : Nat}
theorem shas_x (i : Int) : Con Tryz.prog 78 [hp q, .int .i64 i] [cl q (slc pp s a c) 137] (fun r M => r = .bool (decide (SlotS.has s i)) ∧ M = [cl q (slc pp s a c) 137]) := by
  by_cases h0 : 0 ≤ i
  · by_cases h1 : i < (s.n : Int)
    · rw [decide_eq_true (show SlotS.has s i from ⟨h0, h1⟩)]
      refine fn_y Tryz.func78 Tryz.mixed ?_
      intro w0
      refine Y5 ?_
      refine Zhg (Zbq (b := 0) rfl rfl) ?_
      refine Zos 6 rfl (h0) ?_
      refine Y6 ?_
      first|refine Y0 ?_|(refine Zhh rfl ?_; (refine Zhg (Zbn (a := i) (b := (s.n : Int)) rfl rfl) ?_))
      refine Zos 13 rfl (h1) ?_
      refine V3 ?_
      refine rx1 (Zha rfl (Zg7)) ?_
      exact ⟨_, ⟨rfl, rfl⟩, qI⟩
    · rw [decide_eq_false (show ¬ SlotS.has s i from fun hh => h1 hh.2)]
      refine fn_y Tryz.func78 Tryz.mixed ?_
      intro w0
      refine Y5 ?_
      refine Zhg (Zbq (b := 0) rfl rfl) ?_
      refine Zos 6 rfl (h0) ?_
      refine Y6 ?_
      first|refine Y0 ?_|(refine Zhh rfl ?_; (refine Zhg (Zbn (a := i) (b := (s.n : Int)) rfl rfl) ?_))
      refine Zot 13 rfl (h1) ?_
      refine V3 ?_
      refine rx1 (Zha rfl (Zg7)) ?_
      exact ⟨_, ⟨rfl, rfl⟩, qI⟩
  · rw [decide_eq_false (show ¬ SlotS.has s i from fun hh => h0 hh.1)]
    refine fn_y Tryz.func78 Tryz.mixed ?_
    intro w0
    refine Y5 ?_
    refine Zhg (Zbq (b := 0) rfl rfl) ?_
    refine Zot 6 rfl (h0) ?_
    refine V10 ?_
    refine rx1 (Zha rfl (Zg7)) ?_
    exact ⟨_, ⟨rfl, rfl⟩, qI⟩
theorem stouch_x (k i j : Int) (hl : s.log.length ≤ 4000000000000) : Con Tryz.prog 79 [hp q, .int .i64 k, .int .i64 i, .int .i64 j] (slL q pp s a c) (fun r M => ∃ a' c', M = slL q pp (SlotS.touch s k i j) a' c') := by
  refine fn_y Tryz.func79 Tryz.mixed ?_
  intro w0
  refine Y9 ?_
  refine Zhg (Zdm (cs := (accs (k, i, j)).toArray) rfl) ?_
  refine Zh7 (cs := (accs (k, i, j)).toArray) (by omega) (by omega) (by exact fill_one rfl rfl) ?_; intro b17
  refine Zia rfl rfl qH (Rd.cl (xs := accs (k, i, j)) qH rfl qZ rfl) (by first|rfl|exact oneM_u8 _|exact oneL_u8 _|exact acc_one _|assumption|(simp [oneC]; done)) (by omega) qS ?_; intro a3 c3
  refine V4 ?_
  first|refine rx0 ?_|refine rx0n ?_
  refine ⟨_, ⟨a3, c3, rfl⟩, ?_⟩
  have e2 : (s.log ++ [(k, i, j)]).length = s.log.length + 1 := by simp
  have e3 : (s.log ++ [(k, i, j)]).flatMap accs = s.log.flatMap accs ++ accs (k, i, j) := by simp
  show Imp _ [cl q (slc pp { s with log := s.log ++ [(k, i, j)] } a3 c3) 137, ownAcc a3 c3 (s.log ++ [(k, i, j)])]
  unfold ownAcc slc
  dsimp only
  rw [e2, e3]
  exact qI
abbrev placeF (bf bs : Nat) : Value := .func (.func 115) #[] #[.pointer (some ⟨bf, 0, none⟩), .pointer (some ⟨bs, 0, none⟩)]
theorem splace_x (i : Nat) (h1 : 1 ≤ s.per) (hi : i ≤ 268435456) (hf : SlotS.fr s i ≤ 4096) (hp1 : SlotS.pg s i ≤ 65536) : Con Tryz.prog 80 [hp q, nvv i] [cl q (slc pp s a c) 137] (fun r M => ∃ bf bs, r = .tuple #[nvv (SlotS.pg s i), placeF bf bs] ∧ M = [cl bf #[nvv (SlotS.fr s i)] 3, cl bs #[hp q] 28, cl q (slc pp s a c) 137]) := by
  unfold SlotS.fr at hf
  unfold SlotS.pg at hp1
  refine fn_y Tryz.func80 Tryz.mixed ?_
  intro w0
  refine Y1 ?_
  refine Zh3 rfl ?_; intro b2
  refine V3 ?_
  refine Zij ([cl b2 #[hp q] 28, cl q (slc pp s a c) 137]) [6, 7, 8, 9, 11] (.q 0 (.r 1 (.q 2 (.q 3 (.r 4 (.q 5 (.r 6 (.r 7 (.r 8 (.r 9 (.q 10 (.a 11 (.e 12 false .nil))))))))))))) (by kernel_rfl) (by kernel_rfl) (Imp.arr qV) ?_
  refine W11 ?_
  refine Zir rfl (cs := #[.int .i64 0]) rfl ?_; intro b6
  refine Ziq rfl ?_
  refine Y1 ?_
  refine Zg3 ⟨(fun hh => Bool.noConfusion hh), ?_⟩
  refine Zik ?_
  refine Ct.o ?_
  refine Zij ([cl b6 #[nvv (i % s.per * s.size)] 3, cl b2 #[hp q] 28, cl q (slc pp s a c) 137]) [5, 6, 7, 8, 9] (.q 4 (.q 11 (.r 0 (.q 1 (.q 2 (.r 3 (.r 5 (.r 6 (.r 7 (.r 8 (.r 9 (.q 10 (.q 12 (.q 13 .nil)))))))))))))) (by kernel_rfl) (by kernel_rfl) (Imp.arr qV) ?_
  refine W15 ?_
  refine Ct.o ?_
  refine rx2 (Zg9 rfl (Zg8 rfl (Zg7))) ?_
  exact ⟨_, ⟨b6, b2, rfl, rfl⟩, qI⟩
theorem splaced_x {g n cp bf bs f : Nat} (hs : 1 ≤ s.size) (hfc : f + s.size ≤ n) (hnc : n ≤ cp) (hn : n ≤ 4096) : Con Tryz.prog 115 [.slice (some ⟨g, 0, none⟩) n cp, .pointer (some ⟨bf, 0, none⟩), .pointer (some ⟨bs, 0, none⟩)] [cl bf #[nvv f] 3, cl bs #[hp q] 28, cl q (slc pp s a c) 137] (fun r M => r = .slice (some ⟨g, f, none⟩) s.size (cp - f) ∧ M = [cl bf #[nvv f] 3, cl bs #[hp q] 28, cl q (slc pp s a c) 137]) := by
  have hsz : f + s.size - f = s.size := by omega
  refine fn_y Tryz.func115 Tryz.mixed ?_
  intro w0
  refine V3 ?_
  refine Zij ([cl bf #[nvv f] 3, cl bs #[hp q] 28, cl q (slc pp s a c) 137]) [2, 3, 4, 5, 6, 7] (.q 0 (.r 1 (.r 2 (.r 3 (.r 4 (.r 5 (.r 6 (.r 7 (.q 8 (.q 9 .nil)))))))))) (by kernel_rfl) (by kernel_rfl) (Imp.arr qV) ?_
  refine W8 ?_
  refine Zim rfl (Zna (l := f) (h := f + s.size) rfl rfl rfl (by omega) (by omega) (by omega)) ?_
  refine W2 ?_
  refine Ct.o ?_
  rw [hsz]
  refine rx1 (Zhc rfl (Zg7)) ?_
  exact ⟨_, ⟨rfl, rfl⟩, qI⟩
end
end Go.Sl
namespace Go.Sl
open Go
theorem or_add (a b i : Nat) (h : b < 2 ^ i) : a <<< i ||| b = a * 2 ^ i + b := by rw [← Nat.shiftLeft_add_eq_or_of_lt h, Nat.shiftLeft_eq]
abbrev W128.val (x : W128) : Nat := x.1.toNat + 18446744073709551616 * x.2.toNat
theorem quarter (f : W128) (hf : f.1.toNat % 4 = 0) : W128.val (f.1 >>> 2 ||| f.2 <<< 62, f.2 >>> 2) = f.val / 4 := by
  have h1 := f.1.isLt; have h2 := f.2.isLt
  have e : (f.1 >>> 2 ||| f.2 <<< 62).toNat = f.2.toNat % 4 * 4611686018427387904 + f.1.toNat / 4 := by
    rw [BitVec.toNat_or, BitVec.toNat_ushiftRight, BitVec.toNat_shiftLeft, Nat.shiftRight_eq_div_pow, Nat.or_comm]
    have e2 : f.2.toNat <<< 62 % 2 ^ 64 = (f.2.toNat % 4) <<< 62 := by
      rw [Nat.shiftLeft_eq, Nat.shiftLeft_eq]; omega
    rw [e2, or_add _ _ _ (by omega)]
  simp only [W128.val, e, BitVec.toNat_ushiftRight, Nat.shiftRight_eq_div_pow]
  omega
end Go.Sl
namespace Go.Sl
open Go
end Go.Sl
namespace Go.Sl
open Go Go.Proofs
attribute [local irreducible] pt old pur ex all den denOps denS xOps xC cX CX xthen xblk xcut xloop xng retX resX Calls PV Rd Con
attribute [local irreducible] rotW
end Go.Sl
namespace Go.Sl
open Go Go.Proofs
attribute [local irreducible] pt old pur ex all den denOps denS xOps xC cX CX xthen xblk xcut xloop xng retX resX Calls PV Rd Con
end Go.Sl
namespace Go.Sl
open Go Go.Proofs
attribute [local irreducible] pt old pur ex all den denOps denS xOps xC cX CX xthen xblk xcut xloop xng retX resX Calls PV Rd Con
end Go.Sl
namespace Go.Sl
open Go Go.Proofs
attribute [local irreducible] pt old pur ex all den denOps denS xOps xC cX CX xthen xblk xcut xloop xng retX resX Calls PV Rd Con
end Go.Sl
namespace Go.Sl
open Go Go.Proofs
attribute [local irreducible] pt old pur ex all den denOps denS xOps xC cX CX xthen xblk xcut xloop xng retX resX Calls PV Rd Con
end Go.Sl
namespace Go.Sl
open Go Go.Proofs
attribute [local irreducible] pt old pur ex all den denOps denS xOps xC cX CX xthen xblk xcut xloop xng retX resX Calls PV Rd Con
theorem x_own {P : Program} {w0 : World} {c : Code} {ρ : Env} {Q : XQ} {E n cp : Nat} {a : Option Addr} {xs : List Value} {M M' : List Asrt} (hm : Has M (own E 1 (.slice a n cp) n xs) M') (hn : 0 < n)
    (k : ∀ g rest, a = some ⟨g, 0, none⟩ → n ≤ cp → cp ≤ 9223372036854775807 → rest.length + n = cp → xC P w0 c ρ (cl g (xs ++ rest).toArray E :: M') Q) : xC P w0 c ρ M Q := by
  refine Zgu (α := { p : Nat × List Value // a = some ⟨p.1, 0, none⟩ ∧ n ≤ cp ∧ cp ≤ 9223372036854775807 ∧ p.2.length + n = cp }) (A := fun p => cl p.val.1 (xs ++ p.val.2).toArray E :: M') ?_ (fun p => k p.val.1 p.val.2 p.property.1 p.property.2.1 p.property.2.2.1 p.property.2.2.2)
  intro F w H
  rcases (H.pick (.there hm)).own_get with ⟨hv, rfl, _⟩|⟨g, cap, cur, hv, h2, h3, h4, h5, h6, H'⟩
  · omega
  · simp only [Value.slice.injEq] at hv
    obtain ⟨rfl, _, rfl⟩ := hv
    have e : cur = (xs ++ cur.toList.drop n).toArray := by
      rw [← h5, Nat.mul_one, List.take_append_drop]
    refine ⟨⟨(g, cur.toList.drop n), rfl, h2, h3, by rw [List.length_drop, Array.length_toList, h4]; omega⟩, ?_⟩
    dsimp only
    rw [← e]
    exact H'.swap
attribute [local irreducible] lowB
end Go.Sl
namespace Go.Sl
open Go Go.Proofs
attribute [local irreducible] pt old pur ex all den denOps denS xOps xC cX CX xthen xblk xcut xloop xng retX resX Calls PV Rd Con
attribute [local irreducible] hostA pgA PagerS.loadP PagerS.saveP
open SlotS (SL Acc Fit)
open PagerS (PS Over)
theorem rd_part {M M' : List Asrt} {g f n k E : Nat} {B : List Byte} {rest : List Value} (hm : Has M (cl g (B.map u8b ++ rest).toArray E) M') (h : f + n ≤ B.length) : Rd M 1 (.slice (some ⟨g, f, none⟩) n k) n ((SlotS.part B f n).map u8b) := by
  have hl := SlotS.part_len (t := B) h
  refine Rd.cl (o := f) hm (by rw [List.length_map, hl, Nat.mul_one]) (by simp; omega) ?_
  rw [Nat.mul_one, Array.toList_extract, List.extract_eq_take_drop]
  show ((B.map u8b ++ rest).drop f).take (f + n - f) = _
  rw [show f + n - f = n by omega, List.drop_append_of_le_length (by simp; omega), List.take_append_of_le_length (by simp; omega)]
  unfold SlotS.part
  rw [List.map_take, List.map_drop]
theorem copy_all {l : List Byte} {n : Nat} (hl : l.length = n) : wr ((List.replicate n 0#8).map u8b).toArray 0 ((l.map u8b).take (min n n * 1)) = (l.map u8b).toArray := by
  rw [Nat.min_self, Nat.mul_one, List.take_of_length_le (by simp [hl])]
  have := wr_mid [] ((List.replicate n 0#8).map u8b) [] (l.map u8b) 0 rfl (by simp [hl])
  simpa using this
theorem copy_lay {B b : List Byte} {f n : Nat} {rest : List Value} (hb : b.length = n) (h : f + n ≤ B.length) : wr (B.map u8b ++ rest).toArray f ((b.map u8b).take (min b.length n * 1)) = ((SlotS.lay B f b).map u8b ++ rest).toArray := by
  rw [hb, Nat.min_self, Nat.mul_one, List.take_of_length_le (by simp [hb])]
  have e : B.map u8b ++ rest = (B.take f).map u8b ++ (((B.drop f).take n).map u8b ++ ((B.drop (f + n)).map u8b ++ rest)) := by
    have e1 : B = B.take f ++ ((B.drop f).take n ++ B.drop (f + n)) := by
      have h2 : B.drop (f + n) = (B.drop f).drop n := by rw [List.drop_drop]
      rw [h2, List.take_append_drop, List.take_append_drop]
    conv => lhs; rw [e1]
    simp
  rw [e]
  have := wr_mid ((B.take f).map u8b) (((B.drop f).take n).map u8b) ((B.drop (f + n)).map u8b ++ rest) (b.map u8b) f (by simp; omega) (by simp [hb]; omega)
  rw [this]
  unfold SlotS.lay
  simp [hb]
theorem lay_bs {M M' : List Asrt} {g n c E : Nat} {l : List Byte} {rest : List Value} (hm : Has M (cl g (l.map u8b ++ rest).toArray E) M') (hl : l.length = n) (hnc : n ≤ c) (hcm : c ≤ 9223372036854775807) : Bs M (.slice (some ⟨g, 0, none⟩) n c) l := by
  subst hl
  refine Bs.cl (o := 0) hm (by simp) ?_ hnc hcm
  rw [Nat.zero_add, Array.toList_extract, List.extract_eq_take_drop]
  show ((l.map u8b ++ rest).drop 0).take (l.length - 0) = _
  rw [List.drop_zero, Nat.sub_zero, List.take_append_of_le_length (by simp)]
  exact List.take_of_length_le (by simp)
theorem own_block {g n : Nat} {l : List Byte} (hl : l.length = n) (hn : n ≤ 9223372036854775807) {M : List Asrt} : Imp (cl g (l.map u8b).toArray 5 :: M) (ownB (some ⟨g, 0, none⟩) n l :: M) := by
  subst hl
  exact Imp.own_mk (n := l.length) (cap := l.length) (size := 1) (xs := l.map u8b) (Nat.le_refl _) hn (by simp) (by simp; exact List.take_of_length_le (by simp))
section
variable {q pp ph : Nat} {s : SL} {p : PS} {h : HostS.HS}
theorem pgs_ok {M M' : List Asrt} {F : Asrt} {w0 w : World} (hm : Has M (pgA pp ph p) M') (H : St w0 w (F :: M)) : PagerS.Ok p := by
  have H := H.pick (.there hm)
  unfold pgA at H
  obtain ⟨t, H⟩ := H.ex_get
  exact (St.pur_get (St.all_get H)).ok
theorem sget_x (f : Fit s p) (hk : PagerS.Ok p) (hov : Over p h) (hops : h.ops + 1 < 3518437208880) (hl : s.log.length ≤ 4000000000000) (i : Int) : Con Tryz.prog 35 [hp q, .int .i64 i] [slA q pp s, pgA pp ph p, hostA ph h] (fun r M => ∃ a c, r = .tuple #[.slice a (SlotS.getS s p h i).1.1.length c, nvv (SlotS.getS s p h i).1.2] ∧ M = [ownB a c (SlotS.getS s p h i).1.1, slA q pp (SlotS.getS s p h i).2.1, pgA pp ph (SlotS.getS s p h i).2.2.1, hostA ph (SlotS.getS s p h i).2.2.2]) := by
  refine Con.slA fun la lc => ?_
  simp only [List.cons_append, List.nil_append]
  by_cases hh : SlotS.has s i
  · obtain ⟨i, rfl⟩ : ∃ n : Nat, i = n := ⟨i.toNat, by have := hh.1; omega⟩
    have hin : i < s.n := by have := hh.2; omega
    have ht1 := hk.t1
    have hp1 := hk.p1
    have hpage := f.page hin
    have hfrom := f.from i
    have hsz1 := f.size
    have hll := fun he hk1 => SlotS.load_text (p := p) (h := h) (n := ((SlotS.pg s i : Nat) : Int)) he hk1
    have hld := load_x (p := pp) (ph := ph) hov (by omega) ((SlotS.pg s i : Nat) : Int)
    have e : SlotS.getS s p h (i : Int) = (if (PagerS.loadP p h (SlotS.pg s i : Nat)).1.2 = 0 then (SlotS.part (PagerS.loadP p h (SlotS.pg s i : Nat)).1.1 (SlotS.fr s i) s.size, 0) else ([], (PagerS.loadP p h (SlotS.pg s i : Nat)).1.2), SlotS.touch s 0 i 0, (PagerS.loadP p h (SlotS.pg s i : Nat)).2) := by
      unfold SlotS.getS
      rw [if_pos hh, Int.toNat_natCast]
    rw [e]
    have htc := fun a c => stouch_x (q := q) (pp := pp) (s := s) (a := a) (c := c) 0 i 0 hl
    have hpl := fun a c => splace_x (q := q) (pp := pp) (s := SlotS.touch s 0 i 0) (a := a) (c := c) i (f.touch 0 i 0).per1 (f.small hin hp1 ht1) (by show SlotS.fr s i ≤ 4096; omega) (by show SlotS.pg s i ≤ 65536; omega)
    have hpd := fun a c g n cp bf bs h1 h2 h3 => splaced_x (q := q) (pp := pp) (s := SlotS.touch s 0 i 0) (a := a) (c := c) (g := g) (n := n) (cp := cp) (bf := bf) (bs := bs) (f := SlotS.fr s i) f.size h1 h2 h3
    have e1 : SlotS.pg (SlotS.touch s 0 i 0) i = SlotS.pg s i := rfl
    have e2 : SlotS.fr (SlotS.touch s 0 i 0) i = SlotS.fr s i := rfl
    have e3 : (SlotS.touch s 0 i 0).size = s.size := rfl
    rw [e1, e2] at hpl
    rw [e3] at hpd
    generalize hs2 : SlotS.touch s 0 i 0 = s2 at *
    generalize (PagerS.loadP p h (SlotS.pg s i : Nat)).2.1 = p1 at *
    generalize (PagerS.loadP p h (SlotS.pg s i : Nat)).2.2 = h1 at *
    generalize (PagerS.loadP p h (SlotS.pg s i : Nat)).1.2 = er at *
    generalize (PagerS.loadP p h (SlotS.pg s i : Nat)).1.1 = B at *
    generalize SlotS.pg s i = pn at *
    generalize SlotS.fr s i = fn at *
    refine fn_y Tryz.func35 Tryz.mixed ?_
    intro w0
    refine Y7 ?_
    refine Zhn 12 rfl (rfl) ?_
    refine Y5 ?_
    refine Zor (c := shas_x (q := q) (pp := pp) (s := s) (a := la) (c := lc) i) (k := ?_)
    rintro _ _ ⟨rfl, rfl⟩
    refine Y1 ?_
    refine Zos 15 rfl (hh) ?_
    refine Zhg (Zb0 rfl) ?_
    refine Zhn 16 rfl (rfl) ?_
    refine Y5 ?_
    refine Zor (c := htc la lc) (k := ?_)
    rintro _ _ ⟨la2, lc2, rfl⟩
    refine Y5 ?_
    refine Zor (c := hpl la2 lc2) (k := ?_)
    rintro _ _ ⟨bf, bs, rfl, rfl⟩
    refine Y13 ?_
    refine Zor (c := hld) (k := ?_)
    rintro _ _ ⟨ta, tc, rfl, rfl⟩
    refine V7 ?_
    refine Zgt (fun F w H => pgs_ok (pp := pp) (ph := ph) (p := p1) qH H) ?_
    intro hk1
    by_cases he : er = 0
    · rw [if_pos he]
      have hB := hll he hk1
      have hpl2 : (SlotS.part B fn s.size).length = s.size := SlotS.part_len (by omega)
      refine Y3 ?_
      refine Zot 36 rfl ((fun hh => hh he)) ?_
      refine Y7 ?_
      refine Zm3 (f := u8b) (a := 0#8) rfl rfl rfl qS qS qS ?_; intro b42
      refine V2 ?_
      rw [e3]
      refine x_own (E := 5) (n := B.length) (a := ta) (cp := tc) qH (by omega) ?_
      intro g rest hg hc1 hc2 hr
      subst hg
      refine Y4 ?_
      refine Zor (c := hpd la2 lc2 g B.length tc bf bs (by omega) hc1 (by omega)) (k := ?_)
      rintro _ _ ⟨rfl, rfl⟩
      refine Y1 ?_
      refine Zib rfl rfl ((rd_part qH (by omega))) qR qZ (by first|rfl|exact oneM_u8 _|exact oneL_u8 _|exact acc_one _|assumption|(simp [oneC]; done)) (copy_all hpl2) ?_
      refine V6 ?_
      refine rx2 (Zhc rfl (Zg9 rfl (Zg7))) ?_
      refine ⟨_, ⟨some ⟨b42, 0, none⟩, s.size, by dsimp only; rw [hpl2]; rfl, rfl⟩, ?_⟩
      exact (Imp.arr (N := cl b42 ((SlotS.part B fn s.size).map u8b).toArray 5 :: slL q pp s2 la2 lc2 ++ [pgA pp ph p1, hostA ph h1]) qV).trans ((own_block hpl2 (by omega)).trans (Imp.cons (slA_mk (L := [pgA pp ph p1, hostA ph h1]))))
    · rw [if_neg he]
      refine Y3 ?_
      refine Zos 36 rfl (he) ?_
      refine V7 ?_
      refine rx2 (Zhc rfl (Zg9 rfl (Zg7))) ?_
      exact ⟨_, ⟨none, 0, rfl, rfl⟩, ((Imp.arr qV).trans (slA_mk (q := q) (pp := pp) (s := s2) (a := la2) (c := lc2) (L := [pgA pp ph p1, hostA ph h1]))).trans Imp.own_nil⟩
  · have e : SlotS.getS s p h i = (([], 2), s, p, h) := by unfold SlotS.getS; rw [if_neg hh]
    rw [e]
    refine fn_y Tryz.func35 Tryz.mixed ?_
    intro w0
    refine Y7 ?_
    refine Zhn 12 rfl (rfl) ?_
    refine Y5 ?_
    refine Zor (c := shas_x (q := q) (pp := pp) (s := s) (a := la) (c := lc) i) (k := ?_)
    rintro _ _ ⟨rfl, rfl⟩
    refine Y1 ?_
    refine Zot 15 rfl (hh) ?_
    refine Zhg (Zb0 rfl) ?_
    refine Zhm 16 rfl (rfl) ?_
    refine V6 ?_
    refine rx2 (Zhc rfl (Zg9 rfl (Zg7))) ?_
    exact ⟨_, ⟨none, 0, rfl, rfl⟩, ((Imp.arr qV).trans (slA_mk (q := q) (pp := pp) (s := s) (a := la) (c := lc) (L := [pgA pp ph p, hostA ph h]))).trans Imp.own_nil⟩
end
end Go.Sl
namespace Go.Sl
open Go Go.Proofs
attribute [local irreducible] pt old pur ex all den denOps denS xOps xC cX CX xthen xblk xcut xloop xng retX resX Calls PV Rd Con
attribute [local irreducible] hostA pgA PagerS.loadP PagerS.saveP
open SlotS (SL Acc Fit)
open PagerS (PS Over)
section
variable {q pp ph : Nat} {s : SL} {p : PS} {h : HostS.HS}
theorem sl_small {F : FuncId} {args : List Value} {v : Value} (hc : ∀ a c, Con Tryz.prog F args [cl q (slc pp s a c) 137] (fun r M => r = v ∧ M = [cl q (slc pp s a c) 137])) : Con Tryz.prog F args [slA q pp s] (fun r M => r = v ∧ M = [slA q pp s]) :=
  Con.slA (L := []) fun a c => ((hc a c).frame (L := [ownAcc a c s.log])).mono fun r M ⟨M', h1, h2⟩ => by
    obtain ⟨h1, h3⟩ := h1
    subst h3 h2
    exact ⟨_, by simpa using slA_mk (q := q) (pp := pp) (s := s) (a := a) (c := c) (L := []), h1, rfl⟩
theorem slen_x : Con Tryz.prog 26 [hp q] [slA q pp s] (fun r M => r = nvv s.n ∧ M = [slA q pp s]) := sl_small fun a c => by
  refine fn_y Tryz.func26 Tryz.mixed ?_
  intro w0
  refine Y6 ?_
  refine Zhn 4 rfl (rfl) ?_
  refine V9 ?_
  refine rx1 (Zg9 rfl (Zg7)) ?_
  exact ⟨_, ⟨rfl, rfl⟩, qI⟩
theorem cloneA_x {L : List Asrt} {a : Option Addr} {c : Nat} {b : List Acc} (h : Rd L 3 (.slice a b.length c) b.length (b.flatMap accs)) (hl : b.length ≤ 4000000000001) : Con Tryz.prog 77 [.slice a b.length c] L (fun v M => ∃ a' c', v = .slice a' b.length c' ∧ M = ownAcc a' c' b :: L) := by
  cases ha : a.isNone with
  | true =>
    obtain rfl : a = none := by simpa using ha
    by_cases h0 : b.length = 0
    · obtain rfl : b = [] := List.eq_nil_of_length_eq_zero h0
      refine fn_y Tryz.func77 Tryz.mixed ?_
      intro w0
      refine Y6 ?_
      refine Zhm 4 rfl (rfl) ?_
      refine V5 ?_
      refine rx1 (Zhc rfl (Zg7)) ?_
      exact ⟨_, ⟨none, 0, rfl, rfl⟩, (Imp.arr (N := L) qV).trans Imp.own_nil⟩
    · refine Con.get (fun w0 w F H => h.someAt (by omega) H) ?_
      rintro ⟨s1, s2, hh⟩
      cases hh
  | false =>
    refine fn_y Tryz.func77 Tryz.mixed ?_
    intro w0
    refine Y6 ?_
    refine Zhn 4 rfl (ha) ?_
    refine Y3 ?_
    refine Zh7 (cs := #[]) (by omega) (by omega) rfl ?_; intro b5; refine Zgw ((Imp.arr (N := cl b5 #[] 151 :: L) qV).trans (Imp.own_mk (E := 151) (size := 3) (n := 0) (cap := 0) (xs := []) (by omega) (by omega) rfl rfl)) ?_
    refine Y1 ?_
    refine Zia rfl rfl qH (h.imp (Imp.arr qV)) (by first|rfl|exact oneM_u8 _|exact oneL_u8 _|exact acc_one _|exact acc_ones _|assumption|(simp [oneC]; done)) (by omega) qS ?_; intro a3 c3
    refine V2 ?_
    rw [Nat.zero_add, List.nil_append]
    refine rx1 (Zhc rfl (Zg7)) ?_
    exact ⟨_, ⟨a3, c3, rfl, rfl⟩, qI⟩
theorem slog_x (hl : s.log.length ≤ 4000000000001) : Con Tryz.prog 28 [hp q] [slA q pp s] (fun r M => ∃ a c, r = .slice a s.log.length c ∧ M = [ownAcc a c s.log, slA q pp s]) := by
  refine Con.slA fun la lc => ?_
  simp only [List.cons_append, List.nil_append]
  have hc := cloneA_x (L := [ownAcc la lc s.log]) (a := la) (c := lc) (b := s.log) (Rd.own .here) hl
  refine fn_y Tryz.func28 Tryz.mixed ?_
  intro w0
  refine Y6 ?_
  refine Zhn 4 rfl (rfl) ?_
  refine Y7 ?_
  refine Zor (c := hc) (k := ?_)
  rintro _ _ ⟨a, c, rfl, rfl⟩
  refine V3 ?_
  refine rx1 (Zhc rfl (Zg7)) ?_
  refine ⟨_, ⟨a, c, rfl, rfl⟩, ?_⟩
  exact (Imp.arr (N := ownAcc a c s.log :: (slL q pp s la lc ++ [])) qV).trans (Imp.cons (slA_mk (L := [])))
theorem sset_x {L : List Asrt} (f : Fit s p) (hk : PagerS.Ok p) (hov : Over p h) (hops : h.ops + 3 < 3518437208880) (hl : s.log.length ≤ 4000000000000) (i : Int) {vb : Value} {b : List Byte} (hb : Bs L vb b) : Con Tryz.prog 31 [hp q, .int .i64 i, vb] (slA q pp s :: pgA pp ph p :: hostA ph h :: L) (fun r M => r = nvv (SlotS.setS s p h i b).1 ∧ M = slA q pp (SlotS.setS s p h i b).2.1 :: pgA pp ph (SlotS.setS s p h i b).2.2.1 :: hostA ph (SlotS.setS s p h i b).2.2.2 :: L) := by
  refine Con.get (fun w0 w F H => hb.sh _ _ _ (H.enx (Imp.tail.trans (Imp.tail.trans Imp.tail)))) ?_
  rintro ⟨ba, bc, rfl, hbc, hbcm⟩
  refine Con.slA fun la lc => ?_
  simp only [List.cons_append, List.nil_append]
  have hback : ∀ (s : SL) (p : PS) (h : HostS.HS) (la : Option Addr) (lc : Nat), Imp (slL q pp s la lc ++ (pgA pp ph p :: hostA ph h :: L)) (slA q pp s :: pgA pp ph p :: hostA ph h :: L) := fun s p h la lc => slA_mk
  simp only [List.cons_append, List.nil_append] at hback
  by_cases hh : SlotS.has s i
  · by_cases hbl : b.length = s.size
    · obtain ⟨i, rfl⟩ : ∃ n : Nat, i = n := ⟨i.toNat, by have := hh.1; omega⟩
      have hin : i < s.n := by have := hh.2; omega
      have ht1 := hk.t1
      have hp1 := hk.p1
      have hpage := f.page hin
      have hfrom := f.from i
      have hsz1 := f.size
      have hll := fun he hk1 => SlotS.load_text (p := p) (h := h) (n := ((SlotS.pg s i : Nat) : Int)) he hk1
      have hld := load_x (p := pp) (ph := ph) hov (by omega) ((SlotS.pg s i : Nat) : Int)
      have hov1 := (PagerS.near_load p h ((SlotS.pg s i : Nat) : Int)).over hov
      have hop1 := (PagerS.near_load p h ((SlotS.pg s i : Nat) : Int)).ops
      have e : SlotS.setS s p h (i : Int) b = (if (PagerS.loadP p h (SlotS.pg s i : Nat)).1.2 = 0 then ((PagerS.saveP (PagerS.loadP p h (SlotS.pg s i : Nat)).2.1 (PagerS.loadP p h (SlotS.pg s i : Nat)).2.2 (SlotS.pg s i : Nat) (SlotS.lay (PagerS.loadP p h (SlotS.pg s i : Nat)).1.1 (SlotS.fr s i) b)).1, SlotS.touch s 1 i 0, (PagerS.saveP (PagerS.loadP p h (SlotS.pg s i : Nat)).2.1 (PagerS.loadP p h (SlotS.pg s i : Nat)).2.2 (SlotS.pg s i : Nat) (SlotS.lay (PagerS.loadP p h (SlotS.pg s i : Nat)).1.1 (SlotS.fr s i) b)).2) else ((PagerS.loadP p h (SlotS.pg s i : Nat)).1.2, SlotS.touch s 1 i 0, ((PagerS.loadP p h (SlotS.pg s i : Nat)).2.1, (PagerS.loadP p h (SlotS.pg s i : Nat)).2.2))) := by
        unfold SlotS.setS
        rw [if_pos hh, if_pos hbl, Int.toNat_natCast]
      rw [e]
      have htc := fun a c => stouch_x (q := q) (pp := pp) (s := s) (a := a) (c := c) 1 i 0 hl
      have hpl := fun a c => splace_x (q := q) (pp := pp) (s := SlotS.touch s 1 i 0) (a := a) (c := c) i (f.touch 1 i 0).per1 (f.small hin hp1 ht1) (by show SlotS.fr s i ≤ 4096; omega) (by show SlotS.pg s i ≤ 65536; omega)
      have hpd := fun a c g n cp bf bs h1 h2 h3 => splaced_x (q := q) (pp := pp) (s := SlotS.touch s 1 i 0) (a := a) (c := c) (g := g) (n := n) (cp := cp) (bf := bf) (bs := bs) (f := SlotS.fr s i) f.size h1 h2 h3
      have e1 : SlotS.pg (SlotS.touch s 1 i 0) i = SlotS.pg s i := rfl
      have e2 : SlotS.fr (SlotS.touch s 1 i 0) i = SlotS.fr s i := rfl
      have e3 : (SlotS.touch s 1 i 0).size = s.size := rfl
      rw [e1, e2] at hpl
      rw [e3] at hpd
      generalize hs2 : SlotS.touch s 1 i 0 = s2 at *
      generalize (PagerS.loadP p h (SlotS.pg s i : Nat)).2.1 = p1 at *
      generalize (PagerS.loadP p h (SlotS.pg s i : Nat)).2.2 = h1 at *
      generalize (PagerS.loadP p h (SlotS.pg s i : Nat)).1.2 = er at *
      generalize (PagerS.loadP p h (SlotS.pg s i : Nat)).1.1 = B at *
      generalize SlotS.pg s i = pn at *
      generalize SlotS.fr s i = fn at *
      refine fn_y Tryz.func31 Tryz.mixed ?_
      intro w0
      refine Y6 ?_
      refine Zhn 12 rfl (rfl) ?_
      refine Y5 ?_
      refine Zor (c := shas_x (q := q) (pp := pp) (s := s) (a := la) (c := lc) i) (k := ?_)
      rintro _ _ ⟨rfl, rfl⟩
      refine Y1 ?_
      refine Zos 15 rfl (hh) ?_
      refine Zhg (Zb0 rfl) ?_
      refine Zhn 16 rfl (rfl) ?_
      refine Y9 ?_
      refine Zhg (Zmk (a := b.length) (b := s.size) rfl rfl) ?_
      refine Zot 23 rfl ((fun hh => hh hbl)) ?_
      refine Y5 ?_
      refine Zor (c := htc la lc) (k := ?_)
      rintro _ _ ⟨la2, lc2, rfl⟩
      refine Y5 ?_
      refine Zor (c := hpl la2 lc2) (k := ?_)
      rintro _ _ ⟨bf, bs, rfl, rfl⟩
      refine Y13 ?_
      refine Zor (c := hld) (k := ?_)
      rintro _ _ ⟨ta, tc, rfl, rfl⟩
      refine V7 ?_
      refine Zgt (fun F w H => pgs_ok (pp := pp) (ph := ph) (p := p1) qH H) ?_
      intro hk1
      by_cases he : er = 0
      · rw [if_pos he]
        have hB := hll he hk1
        have hlayl := SlotS.lay_len (t := B) (b := b) (a := fn) (by omega)
        refine Y3 ?_
        refine Zot 43 rfl ((fun hh => hh he)) ?_
        refine V2 ?_
        refine x_own (E := 5) (n := B.length) (a := ta) (cp := tc) qH (by omega) ?_
        intro g rest hg hc1 hc2 hr
        subst hg
        have hsv := save_x (p := pp) (ph := ph) (s := p1) (h := h1) (L := [cl g ((SlotS.lay B fn b).map u8b ++ rest).toArray 5]) hov1 (by omega) (pn : Int) (lay_bs (n := B.length) (c := tc) .here hlayl hc1 hc2)
        refine Y3 ?_
        refine Zor (c := hpd la2 lc2 g B.length tc bf bs (by omega) hc1 (by omega)) (k := ?_)
        rintro _ _ ⟨rfl, rfl⟩
        refine Y2 ?_
        refine Zib rfl rfl ((hb.rd.imp (Imp.arr qV))) qR qZ (by first|rfl|exact oneM_u8 _|exact oneL_u8 _|exact acc_one _|exact acc_ones _|assumption|(simp [oneC]; done)) (copy_lay (B := B) (f := fn) (rest := rest) hbl (by omega)) ?_
        refine Y8 ?_
        refine Zor (c := hsv) (k := ?_)
        rintro _ _ ⟨rfl, rfl⟩
        refine V3 ?_
        refine rx1 (Zg9 rfl (Zg7)) ?_
        refine ⟨_, ⟨rfl, rfl⟩, ?_⟩
        exact (Imp.arr qV).trans (hback s2 _ _ la2 lc2)
      · rw [if_neg he]
        refine Y3 ?_
        refine Zos 43 rfl (he) ?_
        refine V6 ?_
        refine rx1 (Zg9 rfl (Zg7)) ?_
        exact ⟨_, ⟨rfl, rfl⟩, (Imp.arr qV).trans (hback s2 _ _ la2 lc2)⟩
    · have e : SlotS.setS s p h i b = (4, s, p, h) := by unfold SlotS.setS; rw [if_pos hh, if_neg hbl]
      rw [e]
      refine fn_y Tryz.func31 Tryz.mixed ?_
      intro w0
      refine Y6 ?_
      refine Zhn 12 rfl (rfl) ?_
      refine Y5 ?_
      refine Zor (c := shas_x (q := q) (pp := pp) (s := s) (a := la) (c := lc) i) (k := ?_)
      rintro _ _ ⟨rfl, rfl⟩
      refine Y1 ?_
      refine Zos 15 rfl (hh) ?_
      refine Zhg (Zb0 rfl) ?_
      refine Zhn 16 rfl (rfl) ?_
      refine Y9 ?_
      refine Zhg (Zmk (a := b.length) (b := s.size) rfl rfl) ?_
      refine Zos 23 rfl (hbl) ?_
      refine V5 ?_
      refine rx1 (Zg9 rfl (Zg7)) ?_
      exact ⟨_, ⟨rfl, rfl⟩, (Imp.arr qV).trans (hback s p h la lc)⟩
  · have e : SlotS.setS s p h i b = (2, s, p, h) := by unfold SlotS.setS; rw [if_neg hh]
    rw [e]
    refine fn_y Tryz.func31 Tryz.mixed ?_
    intro w0
    refine Y6 ?_
    refine Zhn 12 rfl (rfl) ?_
    refine Y5 ?_
    refine Zor (c := shas_x (q := q) (pp := pp) (s := s) (a := la) (c := lc) i) (k := ?_)
    rintro _ _ ⟨rfl, rfl⟩
    refine Y1 ?_
    refine Zot 15 rfl (hh) ?_
    refine Zhg (Zb0 rfl) ?_
    refine Zhm 16 rfl (rfl) ?_
    refine V5 ?_
    refine rx1 (Zg9 rfl (Zg7)) ?_
    exact ⟨_, ⟨rfl, rfl⟩, (Imp.arr qV).trans (hback s p h la lc)⟩
end
end Go.Sl
namespace Go.Sl
open Go Go.Proofs
attribute [local irreducible] pt old pur ex all den denOps denS xOps xC cX CX xthen xblk xcut xloop xng retX resX Calls PV Rd Con
attribute [local irreducible] hostA pgA PagerS.loadP PagerS.saveP
open SlotS (SL Acc Fit)
open PagerS (PS Over)
abbrev fsl (g n : Nat) : Value := .slice (some ⟨g, 0, none⟩) n n
abbrev blk (g : Nat) (l : List Byte) : Asrt := cl g (l.map u8b).toArray 5
structure FCon (F : FuncId) (fi ca : Array Value) (n : Nat) (X : List Asrt) (φ : List Byte → List Byte → List Byte × List Byte) (Y : List Byte → List Byte → Nat → Nat → List Asrt → Prop) : Prop where
  callable : callable Tryz.prog F = true
  len : ∀ A B, A.length = n → B.length = n → (φ A B).1.length = n ∧ (φ A B).2.length = n
  con : ∀ a b A B, A.length = n → B.length = n → Con Tryz.prog F (fi.toList ++ [fsl a n, fsl b n] ++ ca.toList) (blk a A :: blk b B :: X) (fun r M => ∃ Z, Y A B a b Z ∧ M = blk a (φ A B).1 :: blk b (φ A B).2 :: Z)
section
variable {q pp ph : Nat} {s : SL} {p : PS} {h : HostS.HS} {F : FuncId} {fi ca : Array Value} {X : List Asrt} {φ : List Byte → List Byte → List Byte × List Byte} {Y : List Byte → List Byte → Nat → Nat → List Asrt → Prop}
theorem pair_same (f : Fit s p) (hk : PagerS.Ok p) (hov : Over p h) (hops : h.ops + 6 < 3518437208880) (hl : s.log.length ≤ 4000000000000) {i j : Nat} (hi : i < s.n) (hj : j < s.n) (hij : i ≠ j) (hc : FCon F fi ca s.size X φ Y) (hpg : SlotS.pg s j = SlotS.pg s i) (he : (PagerS.loadP p h (SlotS.pg s i : Nat)).1.2 = 0) :
    Con Tryz.prog 32 [hp q, nvv i, nvv j, .func (.func F) fi ca] (slA q pp s :: pgA pp ph p :: hostA ph h :: X) (fun r M => ∃ A B E, A = SlotS.part (PagerS.loadP p h (SlotS.pg s i : Nat)).1.1 (SlotS.fr s i) s.size ∧ B = SlotS.part (PagerS.loadP p h (SlotS.pg s i : Nat)).1.1 (SlotS.fr s j) s.size ∧ E = PagerS.saveP (PagerS.loadP p h (SlotS.pg s i : Nat)).2.1 (PagerS.loadP p h (SlotS.pg s i : Nat)).2.2 (SlotS.pg s i : Nat) (SlotS.lay (SlotS.lay (PagerS.loadP p h (SlotS.pg s i : Nat)).1.1 (SlotS.fr s i) (φ A B).1) (SlotS.fr s j) (φ A B).2) ∧ r = nvv E.1 ∧ ∃ a b Z, Y A B a b Z ∧ M = slA q pp (SlotS.touch s 2 i j) :: pgA pp ph E.2.1 :: hostA ph E.2.2 :: blk a (φ A B).1 :: blk b (φ A B).2 :: Z) := by
  refine Con.slA fun la lc => ?_
  simp only [List.cons_append, List.nil_append]
  have ht1 := hk.t1
  have hp1 := hk.p1
  have hpage := f.page hi
  have hfi := f.from i
  have hfj := f.from j
  have hsz1 := f.size
  have hiz := f.small hi hp1 ht1
  have hjz := f.small hj hp1 ht1
  have hll := fun hk1 => SlotS.load_text (p := p) (h := h) (n := ((SlotS.pg s i : Nat) : Int)) he hk1
  have hld := load_x (p := pp) (ph := ph) hov (by omega) ((SlotS.pg s i : Nat) : Int)
  have hov1 := (PagerS.near_load p h ((SlotS.pg s i : Nat) : Int)).over hov
  have hop1 := (PagerS.near_load p h ((SlotS.pg s i : Nat) : Int)).ops
  have htc := fun a c => stouch_x (q := q) (pp := pp) (s := s) (a := a) (c := c) 2 i j hl
  have hpl1 := fun a c => splace_x (q := q) (pp := pp) (s := SlotS.touch s 2 i j) (a := a) (c := c) i (f.touch 2 i j).per1 hiz (by show SlotS.fr s i ≤ 4096; omega) (by show SlotS.pg s i ≤ 65536; omega)
  have hpl2 := fun a c => splace_x (q := q) (pp := pp) (s := SlotS.touch s 2 i j) (a := a) (c := c) j (f.touch 2 i j).per1 hjz (by show SlotS.fr s j ≤ 4096; omega) (by show SlotS.pg s j ≤ 65536; rw [hpg]; omega)
  have hpd := fun a c g n cp bf bs fn h1 h2 h3 => splaced_x (q := q) (pp := pp) (s := SlotS.touch s 2 i j) (a := a) (c := c) (g := g) (n := n) (cp := cp) (bf := bf) (bs := bs) (f := fn) f.size h1 h2 h3
  have e1 : SlotS.pg (SlotS.touch s 2 i j) i = SlotS.pg s i := rfl
  have e2 : SlotS.fr (SlotS.touch s 2 i j) i = SlotS.fr s i := rfl
  have e1' : SlotS.pg (SlotS.touch s 2 i j) j = SlotS.pg s j := rfl
  have e2' : SlotS.fr (SlotS.touch s 2 i j) j = SlotS.fr s j := rfl
  have e3 : (SlotS.touch s 2 i j).size = s.size := rfl
  rw [e1, e2] at hpl1
  rw [e1', e2', hpg] at hpl2
  rw [e3] at hpd
  have hh1 : SlotS.has s (i : Int) := SlotS.has_nat hi
  have hh2 : SlotS.has s (j : Int) := SlotS.has_nat hj
  have hijz : ¬ ((i : Int) = (j : Int)) := by omega
  clear e1 e1' e2 e2' hiz hjz
  generalize hs2 : SlotS.touch s 2 i j = s2 at *
  generalize (PagerS.loadP p h (SlotS.pg s i : Nat)).2.1 = p1 at *
  generalize (PagerS.loadP p h (SlotS.pg s i : Nat)).2.2 = h1 at *
  generalize (PagerS.loadP p h (SlotS.pg s i : Nat)).1.2 = er at *
  generalize (PagerS.loadP p h (SlotS.pg s i : Nat)).1.1 = B at *
  generalize SlotS.pg s i = pn at *
  generalize SlotS.fr s i = f1 at *
  generalize SlotS.fr s j = f2 at *
  subst he
  refine fn_y Tryz.func32 Tryz.mixed ?_
  intro w0
  refine Y6 ?_
  refine Zhn 20 rfl (rfl) ?_
  refine Y5 ?_
  refine Zor (c := shas_x (q := q) (pp := pp) (s := s) (a := la) (c := lc) i) (k := ?_)
  rintro _ _ ⟨rfl, rfl⟩
  refine Y1 ?_
  refine Zos 23 rfl (hh1) ?_
  refine Zhg (Zb0 rfl) ?_
  refine Zhn 24 rfl (rfl) ?_
  refine Y3 ?_
  first|refine Y0 ?_|(refine Zhh rfl ?_; (refine Zor (c := shas_x (q := q) (pp := pp) (s := s) (a := la) (c := lc) j) (k := ?_)); (rintro _ _ ⟨rfl, rfl⟩); (refine Zg2 qA ?_))
  refine Zos 28 rfl (hh2) ?_
  first|refine Y0 ?_|(refine Zhh rfl ?_; (refine Zhg (Zb0 rfl) ?_))
  refine Zhn 29 rfl (rfl) ?_
  refine Y4 ?_
  first|refine Y0 ?_|(refine Zhh rfl ?_; (refine Zhg (Zbr (a := (i : Int)) (b := (j : Int)) rfl rfl) ?_))
  refine Zot 34 rfl (hijz) ?_
  refine Y7 ?_
  refine Zor (c := htc la lc) (k := ?_)
  rintro _ _ ⟨la2, lc2, rfl⟩
  refine Y5 ?_
  refine Zor (c := hpl1 la2 lc2) (k := ?_)
  rintro _ _ ⟨bf, bs, rfl, rfl⟩
  refine Y10 ?_
  refine Zor (c := hpl2 la2 lc2) (k := ?_)
  rintro _ _ ⟨bg, bt, rfl, rfl⟩
  refine Y13 ?_
  refine Zor (c := hld) (k := ?_)
  rintro _ _ ⟨ta, tc, rfl, rfl⟩
  refine V7 ?_
  refine Zgt (fun F w H => pgs_ok (pp := pp) (ph := ph) (p := p1) qH H) ?_
  intro hk1
  have hB := hll hk1
  refine Y3 ?_
  refine Zot 62 rfl ((fun hh => hh rfl)) ?_
  refine Y9 ?_
  refine Zhg (Zmk (a := pn) (b := pn) rfl rfl) ?_
  refine Zot 67 rfl ((fun hh => hh rfl)) ?_
  refine V2 ?_
  refine Zij ([cl q (slc pp s2 la2 lc2) 137]) [4, 8, 9, 10] (.q 0 (.q 1 (.q 2 (.q 5 (.q 6 (.q 7 (.r 3 (.r 8 (.alt (.e 4 true (.r 10 (.e 9 true (.q 11 .nil)))) (.e 9 true (.e 4 true (.r 10 (.q 11 .nil))))))))))))) (by kernel_rfl) (by kernel_rfl) (Imp.arr qV) ?_
  refine W8 ?_
  refine Zis ?altA1 ?altB1
  case' altA1 =>
    refine Ziq rfl ?_
    refine Zm3 (f := u8b) (a := 0#8) rfl rfl rfl qS qS qS ?_; intro b84
    refine Zg3 ⟨fun _ => Imp.arr qV, ?_⟩
    refine W1 ?_
    refine Ziq rfl ?_
    refine Zm3 (f := u8b) (a := 0#8) rfl rfl rfl qS qS qS ?_; intro b89
    refine Zg3 ⟨fun _ => Imp.arr qV, ?_⟩
    refine W2 ?_
  case' altB1 =>
    refine Ziq rfl ?_
    refine Zm3 (f := u8b) (a := 0#8) rfl rfl rfl qS qS qS ?_; intro b89
    refine Zg3 ⟨fun _ => Imp.arr qV, ?_⟩
    refine Ziq rfl ?_
    refine Zm3 (f := u8b) (a := 0#8) rfl rfl rfl qS qS qS ?_; intro b84
    refine Zg3 ⟨fun _ => Imp.arr qV, ?_⟩
    refine W3 ?_
  all_goals (refine Ct.o ?_)
  all_goals
    rw [e3]
    refine x_own (E := 5) (n := B.length) (a := ta) (cp := tc) qH (by omega) ?_
    intro g rest hg hc1 hc2 hr
    subst hg
    have hA : (SlotS.part B f1 s.size).length = s.size := SlotS.part_len (by omega)
    have hA2 : (SlotS.part B f2 s.size).length = s.size := SlotS.part_len (by omega)
    obtain ⟨hx, hy⟩ := hc.len _ _ hA hA2
    have hcf := hc.con b84 b89 _ _ hA hA2
    refine Y4 ?_
    refine Zor (c := hpd la2 lc2 g B.length tc bf bs f1 (by omega) hc1 (by omega)) (k := ?_)
    rintro _ _ ⟨rfl, rfl⟩
    refine Y1 ?_
    refine Zib rfl rfl ((rd_part qH (by omega))) qR qZ (by first|rfl|exact oneM_u8 _|exact oneL_u8 _|exact acc_one _|exact acc_ones _|assumption|(simp [oneC]; done)) (copy_all hA) ?_
    refine Y5 ?_
    refine Zor (c := hpd la2 lc2 g B.length tc bg bt f2 (by omega) hc1 (by omega)) (k := ?_)
    rintro _ _ ⟨rfl, rfl⟩
    refine Y1 ?_
    refine Zib rfl rfl ((rd_part qH (by omega))) qR qZ (by first|rfl|exact oneM_u8 _|exact oneL_u8 _|exact acc_one _|exact acc_ones _|assumption|(simp [oneC]; done)) (copy_all hA2) ?_
    refine Y5 ?_
    refine Zh8 rfl hc.callable hcf rfl qT ?_; rintro _ _ ⟨Z, hZ, rfl⟩; refine Zg2 qA ?_
    refine V1 ?_
    generalize hφ1 : (φ (SlotS.part B f1 s.size) (SlotS.part B f2 s.size)).1 = x1 at *
    generalize hφ2 : (φ (SlotS.part B f1 s.size) (SlotS.part B f2 s.size)).2 = x2 at *
    have hl1 : (SlotS.lay B f1 x1).length = B.length := SlotS.lay_len (by omega)
    have hl2 : (SlotS.lay (SlotS.lay B f1 x1) f2 x2).length = B.length := by rw [SlotS.lay_len (by omega), hl1]
    have hsv := save_x (p := pp) (ph := ph) (s := p1) (h := h1) (L := [cl g ((SlotS.lay (SlotS.lay B f1 x1) f2 x2).map u8b ++ rest).toArray 5]) hov1 (by omega) (pn : Int) (lay_bs (n := B.length) (c := tc) .here hl2 hc1 hc2)
    refine Y3 ?_
    refine Zor (c := hpd la2 lc2 g B.length tc bf bs f1 (by omega) hc1 (by omega)) (k := ?_)
    rintro _ _ ⟨rfl, rfl⟩
    refine Y2 ?_
    refine Zib rfl rfl ((Bs.rd (bs_full (l := x1) (n := s.size) qH hx (by omega)))) qR qZ (by first|rfl|exact oneM_u8 _|exact oneL_u8 _|exact acc_one _|exact acc_ones _|assumption|(simp [oneC]; done)) (copy_lay (B := B) (f := f1) (rest := rest) hx (by omega)) ?_
    refine Y4 ?_
    refine Zor (c := hpd la2 lc2 g B.length tc bg bt f2 (by omega) hc1 (by omega)) (k := ?_)
    rintro _ _ ⟨rfl, rfl⟩
    refine Y2 ?_
    refine Zib rfl rfl ((Bs.rd (bs_full (l := x2) (n := s.size) qH hy (by omega)))) qR qZ (by first|rfl|exact oneM_u8 _|exact oneL_u8 _|exact acc_one _|exact acc_ones _|assumption|(simp [oneC]; done)) (copy_lay (B := SlotS.lay B f1 x1) (f := f2) (rest := rest) hy (by omega)) ?_
    refine Y8 ?_
    refine Zor (c := hsv) (k := ?_)
    rintro _ _ ⟨rfl, rfl⟩
    refine V3 ?_
    have hfin : Imp (slL q pp s2 la2 lc2 ++ (pgA pp ph (PagerS.saveP p1 h1 (pn : Int) (SlotS.lay (SlotS.lay B f1 x1) f2 x2)).2.1 :: hostA ph (PagerS.saveP p1 h1 (pn : Int) (SlotS.lay (SlotS.lay B f1 x1) f2 x2)).2.2 :: blk b84 x1 :: blk b89 x2 :: Z)) (slA q pp s2 :: pgA pp ph (PagerS.saveP p1 h1 (pn : Int) (SlotS.lay (SlotS.lay B f1 x1) f2 x2)).2.1 :: hostA ph (PagerS.saveP p1 h1 (pn : Int) (SlotS.lay (SlotS.lay B f1 x1) f2 x2)).2.2 :: blk b84 x1 :: blk b89 x2 :: Z) := slA_mk
    simp only [List.cons_append, List.nil_append] at hfin
    by_cases hz : (PagerS.saveP p1 h1 (pn : Int) (SlotS.lay (SlotS.lay B f1 x1) f2 x2)).1 = 0
    · refine Y3 ?_
      refine Zot 122 rfl ((fun hh => hh hz)) ?_
      refine Y3 ?_
      first|refine Y0 ?_|(refine Zhh rfl ?_; (refine Zhg (Zmj (a := pn) (b := pn) rfl rfl) ?_))
      refine Zos 126 rfl (rfl) ?_
      refine V7 ?_
      refine rx1 (Zg9 rfl (Zg7)) ?_
      refine ⟨_, ⟨_, _, _, rfl, rfl, rfl, by rw [hφ1, hφ2], b84, b89, Z, hZ, rfl⟩, ?_⟩
      rw [hφ1, hφ2]
      exact (Imp.arr qV).trans hfin
    · refine Y3 ?_
      refine Zos 122 rfl (hz) ?_
      refine V11 ?_
      refine rx1 (Zg9 rfl (Zg7)) ?_
      refine ⟨_, ⟨_, _, _, rfl, rfl, rfl, by rw [hφ1, hφ2], b84, b89, Z, hZ, rfl⟩, ?_⟩
      rw [hφ1, hφ2]
      exact (Imp.arr qV).trans hfin
end
end Go.Sl
namespace Go.Sl
open Go Go.Proofs
attribute [local irreducible] pt old pur ex all den denOps denS xOps xC cX CX xthen xblk xcut xloop xng retX resX Calls PV Rd Con
attribute [local irreducible] hostA pgA PagerS.loadP PagerS.saveP
open SlotS (SL Acc Fit)
open PagerS (PS Over)
section
variable {q pp ph : Nat} {s : SL} {p : PS} {h : HostS.HS} {F : FuncId} {fi ca : Array Value}
theorem pair_err (f : Fit s p) (hk : PagerS.Ok p) (hov : Over p h) (hops : h.ops + 6 < 3518437208880) (hl : s.log.length ≤ 4000000000000) {i j : Nat} (hi : i < s.n) (hj : j < s.n) (hij : i ≠ j) (he : (SlotS.pairL s p h i j).1.1 ≠ 0) :
    Con Tryz.prog 32 [hp q, nvv i, nvv j, .func (.func F) fi ca] [slA q pp s, pgA pp ph p, hostA ph h] (fun r M => r = nvv (SlotS.pairL s p h i j).1.1 ∧ M = [slA q pp (SlotS.touch s 2 i j), pgA pp ph (SlotS.pairL s p h i j).2.1, hostA ph (SlotS.pairL s p h i j).2.2]) := by
  refine Con.slA fun la lc => ?_
  simp only [List.cons_append, List.nil_append]
  have ht1 := hk.t1
  have hp1 := hk.p1
  have hpage := f.page hi
  have hfi := f.from i
  have hfj := f.from j
  have hsz1 := f.size
  have hiz := f.small hi hp1 ht1
  have hjz := f.small hj hp1 ht1
  have hld := load_x (p := pp) (ph := ph) hov (by omega) ((SlotS.pg s i : Nat) : Int)
  have hov1 := (PagerS.near_load p h ((SlotS.pg s i : Nat) : Int)).over hov
  have hop1 := (PagerS.near_load p h ((SlotS.pg s i : Nat) : Int)).ops
  have hpageJ := f.page hj
  have htc := fun a c => stouch_x (q := q) (pp := pp) (s := s) (a := a) (c := c) 2 i j hl
  have hpl1 := fun a c => splace_x (q := q) (pp := pp) (s := SlotS.touch s 2 i j) (a := a) (c := c) i (f.touch 2 i j).per1 hiz (by show SlotS.fr s i ≤ 4096; omega) (by show SlotS.pg s i ≤ 65536; omega)
  have hpl2 := fun a c => splace_x (q := q) (pp := pp) (s := SlotS.touch s 2 i j) (a := a) (c := c) j (f.touch 2 i j).per1 hjz (by show SlotS.fr s j ≤ 4096; omega) (by show SlotS.pg s j ≤ 65536; omega)
  have e1 : SlotS.pg (SlotS.touch s 2 i j) i = SlotS.pg s i := rfl
  have e2 : SlotS.fr (SlotS.touch s 2 i j) i = SlotS.fr s i := rfl
  have e1' : SlotS.pg (SlotS.touch s 2 i j) j = SlotS.pg s j := rfl
  have e2' : SlotS.fr (SlotS.touch s 2 i j) j = SlotS.fr s j := rfl
  rw [e1, e2] at hpl1
  rw [e1', e2'] at hpl2
  have hh1 : SlotS.has s (i : Int) := SlotS.has_nat hi
  have hh2 : SlotS.has s (j : Int) := SlotS.has_nat hj
  have hijz : ¬ ((i : Int) = (j : Int)) := by omega
  have hfin : ∀ a c (p : PS) (h : HostS.HS), Imp (slL q pp (SlotS.touch s 2 i j) a c ++ [pgA pp ph p, hostA ph h]) [slA q pp (SlotS.touch s 2 i j), pgA pp ph p, hostA ph h] := fun a c p h => slA_mk
  simp only [List.cons_append, List.nil_append] at hfin
  clear e1 e1' e2 e2' hiz hjz
  unfold SlotS.pairL at he ⊢
  dsimp only at he ⊢
  generalize hs2 : SlotS.touch s 2 i j = s2 at *
  generalize (PagerS.loadP p h (SlotS.pg s i : Nat)).2 = P1 at *
  generalize (PagerS.loadP p h (SlotS.pg s i : Nat)).1 = R1 at *
  obtain ⟨p1, h1⟩ := P1
  obtain ⟨B, er⟩ := R1
  dsimp only at *
  have hld2 := load_x (p := pp) (ph := ph) hov1 (by omega) ((SlotS.pg s j : Nat) : Int)
  generalize (PagerS.loadP p1 h1 (SlotS.pg s j : Nat)).2 = P2 at *
  generalize (PagerS.loadP p1 h1 (SlotS.pg s j : Nat)).1 = R2 at *
  obtain ⟨p2, h2⟩ := P2
  obtain ⟨B2, er2⟩ := R2
  dsimp only at *
  by_cases hz : er = 0
  · rw [if_pos hz] at he ⊢
    by_cases hpg : SlotS.pg s j = SlotS.pg s i
    · rw [if_pos hpg] at he; exact absurd rfl he
    rw [if_neg hpg] at he ⊢
    by_cases hz2 : er2 = 0
    · rw [if_pos hz2] at he; exact absurd rfl he
    rw [if_neg hz2]
    clear he
    generalize SlotS.pg s i = pn at *
    generalize SlotS.pg s j = pm at *
    generalize SlotS.fr s i = f1 at *
    generalize SlotS.fr s j = f2 at *
    refine fn_y Tryz.func32 Tryz.mixed ?_
    intro w0
    refine Y6 ?_
    refine Zhn 20 rfl (rfl) ?_
    refine Y5 ?_
    refine Zor (c := shas_x (q := q) (pp := pp) (s := s) (a := la) (c := lc) i) (k := ?_)
    rintro _ _ ⟨rfl, rfl⟩
    refine Y1 ?_
    refine Zos 23 rfl (hh1) ?_
    refine Zhg (Zb0 rfl) ?_
    refine Zhn 24 rfl (rfl) ?_
    refine Y3 ?_
    first|refine Y0 ?_|(refine Zhh rfl ?_; (refine Zor (c := shas_x (q := q) (pp := pp) (s := s) (a := la) (c := lc) j) (k := ?_)); (rintro _ _ ⟨rfl, rfl⟩); (refine Zg2 qA ?_))
    refine Zos 28 rfl (hh2) ?_
    first|refine Y0 ?_|(refine Zhh rfl ?_; (refine Zhg (Zb0 rfl) ?_))
    refine Zhn 29 rfl (rfl) ?_
    refine Y4 ?_
    first|refine Y0 ?_|(refine Zhh rfl ?_; (refine Zhg (Zbr (a := (i : Int)) (b := (j : Int)) rfl rfl) ?_))
    refine Zot 34 rfl (hijz) ?_
    refine Y7 ?_
    refine Zor (c := htc la lc) (k := ?_)
    rintro _ _ ⟨la2, lc2, rfl⟩
    refine Y5 ?_
    refine Zor (c := hpl1 la2 lc2) (k := ?_)
    rintro _ _ ⟨bf, bs, rfl, rfl⟩
    refine Y10 ?_
    refine Zor (c := hpl2 la2 lc2) (k := ?_)
    rintro _ _ ⟨bg, bt, rfl, rfl⟩
    refine Y13 ?_
    refine Zor (c := hld) (k := ?_)
    rintro _ _ ⟨ta, tc, rfl, rfl⟩
    refine Y10 ?_
    refine Zot 62 rfl ((fun hh => hh hz)) ?_
    refine Y9 ?_
    refine Zhg (Zmk (a := pm) (b := pn) rfl rfl) ?_
    refine Zos 67 rfl (hpg) ?_
    refine Y8 ?_
    refine Zor (c := hld2) (k := ?_)
    rintro _ _ ⟨ua, uc, rfl, rfl⟩
    refine Y10 ?_
    refine Zos 78 rfl (hz2) ?_
    refine V6 ?_
    refine rx1 (Zg9 rfl (Zg7)) ?_
    exact ⟨_, ⟨rfl, rfl⟩, (Imp.arr qV).trans (hfin _ _ _ _)⟩
  · rw [if_neg hz]
    clear he
    generalize SlotS.pg s i = pn at *
    generalize SlotS.pg s j = pm at *
    generalize SlotS.fr s i = f1 at *
    generalize SlotS.fr s j = f2 at *
    refine fn_y Tryz.func32 Tryz.mixed ?_
    intro w0
    refine Y6 ?_
    refine Zhn 20 rfl (rfl) ?_
    refine Y5 ?_
    refine Zor (c := shas_x (q := q) (pp := pp) (s := s) (a := la) (c := lc) i) (k := ?_)
    rintro _ _ ⟨rfl, rfl⟩
    refine Y1 ?_
    refine Zos 23 rfl (hh1) ?_
    refine Zhg (Zb0 rfl) ?_
    refine Zhn 24 rfl (rfl) ?_
    refine Y3 ?_
    first|refine Y0 ?_|(refine Zhh rfl ?_; (refine Zor (c := shas_x (q := q) (pp := pp) (s := s) (a := la) (c := lc) j) (k := ?_)); (rintro _ _ ⟨rfl, rfl⟩); (refine Zg2 qA ?_))
    refine Zos 28 rfl (hh2) ?_
    first|refine Y0 ?_|(refine Zhh rfl ?_; (refine Zhg (Zb0 rfl) ?_))
    refine Zhn 29 rfl (rfl) ?_
    refine Y4 ?_
    first|refine Y0 ?_|(refine Zhh rfl ?_; (refine Zhg (Zbr (a := (i : Int)) (b := (j : Int)) rfl rfl) ?_))
    refine Zot 34 rfl (hijz) ?_
    refine Y7 ?_
    refine Zor (c := htc la lc) (k := ?_)
    rintro _ _ ⟨la2, lc2, rfl⟩
    refine Y5 ?_
    refine Zor (c := hpl1 la2 lc2) (k := ?_)
    rintro _ _ ⟨bf, bs, rfl, rfl⟩
    refine Y10 ?_
    refine Zor (c := hpl2 la2 lc2) (k := ?_)
    rintro _ _ ⟨bg, bt, rfl, rfl⟩
    refine Y13 ?_
    refine Zor (c := hld) (k := ?_)
    rintro _ _ ⟨ta, tc, rfl, rfl⟩
    refine Y10 ?_
    refine Zos 62 rfl (hz) ?_
    refine V6 ?_
    refine rx1 (Zg9 rfl (Zg7)) ?_
    exact ⟨_, ⟨rfl, rfl⟩, (Imp.arr qV).trans (hfin _ _ _ _)⟩
end
end Go.Sl
namespace Go.Sl.NetS
def gAt (k j i : Nat) : List (Nat × Nat) := if i / j % 2 = 1 then [] else [if i / k % 2 = 1 then (i + j, i) else (i, i + j)]
def gRow (n k j : Nat) : List (Nat × Nat) := (List.range n).flatMap (gAt k j)
def gStage (n k : Nat) : Nat → List (Nat × Nat)
  | 0 => gRow n k 1
  | q + 1 => gRow n k (2 ^ (q + 1)) ++ gStage n k q
def gTo (n : Nat) : Nat → List (Nat × Nat)
  | 0 => []
  | p + 1 => gTo n p ++ gStage n (2 ^ (p + 1)) p
def gates (m : Nat) : List (Nat × Nat) := gTo (2 ^ m) m
-- on bits
def gb (s : Nat → Bool) (g : Nat × Nat) : Nat → Bool := fun x => if x = g.1 then s g.1 && s g.2 else if x = g.2 then s g.1 || s g.2 else s x
def done (j m x : Nat) : Prop := (x / j % 2 = 1 ∧ x - j < m) ∨ (¬ x / j % 2 = 1 ∧ x < m)
theorem div_succ {j x : Nat} (hj : 0 < j) : (x + j) / j = x / j + 1 := Nat.add_div_right x hj
-- blocks
section half
variable {k j a : Nat} {d : Bool} {s : Nat → Bool}
end half
theorem pow_pos2 (q : Nat) : 0 < 2 ^ q := Nat.pow_pos (by omega)
theorem dvd_succ {q m : Nat} (h : 2 ^ (q + 1) ∣ m) : 2 ^ q ∣ m := Nat.dvd_trans ⟨2, Nat.pow_succ 2 q⟩ h
end Go.Sl.NetS
namespace Go.Sl.NetS
abbrev Row := List (BitVec 8)
def okG (n : Nat) (g : Nat × Nat) : Prop := g.1 < n ∧ g.2 < n ∧ g.1 ≠ g.2
section
variable {c : Row → Row → Bool} {l : List Row} {g : Nat × Nat} {n : Nat}
theorem getD_set {l : List Row} {i x : Nat} {a : Row} (hi : i < l.length) : (l.set i a).getD x [] = if x = i then a else l.getD x [] := by
  rw [List.getD_eq_getElem?_getD, List.getElem?_set, List.getD_eq_getElem?_getD]
  by_cases h : i = x
  · subst h; simp [hi]
  · rw [if_neg h, if_neg (Ne.symm h)]
end
section
variable {c : Row → Row → Bool} {n : Nat}
def bt (key : Row → Nat) (t : Nat) (l : List Row) : Nat → Bool := fun x => decide (t ≤ key (l.getD x []))
end
-- the gates' places
theorem gAt_ok {n k j i : Nat} (hj : 0 < j) (hn : 2 * j ∣ n) (hi : i < n) : ∀ g ∈ gAt k j i, okG n g := by
  intro g hg
  unfold gAt at hg
  split at hg
  · cases hg
  · rename_i h
    have hlt : i + j < n := by
      obtain ⟨e, rfl⟩ := hn
      have e1 : i / j < 2 * e := by
        apply Nat.div_lt_of_lt_mul
        rw [← Nat.mul_assoc, Nat.mul_comm j 2]; exact hi
      have e2 : i / j + 1 < 2 * e := by omega
      have e3 : (i + j) / j < 2 * e := by rw [div_succ hj]; exact e2
      have e4 := (Nat.div_lt_iff_lt_mul hj).1 e3
      have e5 : 2 * e * j = 2 * j * e := by rw [Nat.mul_assoc, Nat.mul_assoc, Nat.mul_comm e j]
      omega
    rw [List.mem_singleton] at hg
    subst hg
    split
    · exact ⟨hlt, hi, by simp only; omega⟩
    · exact ⟨hi, hlt, by simp only; omega⟩
theorem gRow_ok {n k j : Nat} (hj : 0 < j) (hn : 2 * j ∣ n) : ∀ g ∈ gRow n k j, okG n g := by
  intro g hg
  obtain ⟨i, hi, hg⟩ := List.mem_flatMap.1 hg
  exact gAt_ok hj hn (List.mem_range.1 hi) g hg
theorem gStage_ok {n k : Nat} : ∀ q, 2 ^ (q + 1) ∣ n → ∀ g ∈ gStage n k q, okG n g
  | 0, hn, g, hg => gRow_ok (j := 1) (by omega) hn g hg
  | q + 1, hn, g, hg => by
    rcases List.mem_append.1 hg with hg|hg
    · exact gRow_ok (pow_pos2 _) (by rw [Nat.mul_comm, ← Nat.pow_succ]; exact hn) g hg
    · exact gStage_ok q (dvd_succ hn) g hg
theorem gTo_ok {m : Nat} : ∀ p, p ≤ m → ∀ g ∈ gTo (2 ^ m) p, okG (2 ^ m) g
  | 0, _, g, hg => by cases hg
  | p + 1, hp, g, hg => by
    rcases List.mem_append.1 hg with hg|hg
    · exact gTo_ok p (by omega) g hg
    · exact gStage_ok p (Nat.pow_dvd_pow 2 hp) g hg
theorem gates_ok (m : Nat) : ∀ g ∈ gates m, okG (2 ^ m) g := gTo_ok m (Nat.le_refl _)
end Go.Sl.NetS
namespace Go.Sl.NetS
theorem and_pow (x q : Nat) : (x &&& 2 ^ q = 0) ↔ ¬ x / 2 ^ q % 2 = 1 := by
  have ht : x.testBit q = decide (x / 2 ^ q % 2 = 1) := Nat.testBit_eq_decide_div_mod_eq
  constructor
  · intro h hh
    have := congrArg (fun z => z.testBit q) h
    simp only [Nat.testBit_and, Nat.testBit_two_pow_self, Nat.zero_testBit, Bool.and_true] at this
    rw [ht, decide_eq_true hh] at this
    cases this
  · intro hh
    apply Nat.eq_of_testBit_eq
    intro j
    rw [Nat.testBit_and, Nat.zero_testBit, Nat.testBit_two_pow]
    by_cases e : q = j
    · subst e; rw [ht, decide_eq_false hh]; rfl
    · simp [e]
theorem or_pow {x q : Nat} (h : ¬ x / 2 ^ q % 2 = 1) : x ||| 2 ^ q = x + 2 ^ q := by
  have hq := pow_pos2 q
  have e1 := Nat.div_add_mod x (2 ^ q)
  have hr := Nat.mod_lt x hq
  obtain ⟨e, he⟩ : ∃ e, x / 2 ^ q = 2 * e := ⟨x / 2 ^ q / 2, by omega⟩
  rw [he] at e1
  generalize x % 2 ^ q = r at *
  subst e1
  have h1 : 2 ^ q * (2 * e) + r = 2 ^ q * (2 * e) ||| r := Nat.two_pow_add_eq_or_of_lt hr _
  have h2 : 2 ^ q * (2 * e + 1) + r = 2 ^ q * (2 * e + 1) ||| r := Nat.two_pow_add_eq_or_of_lt hr _
  have h3 : 2 ^ q * (2 * e + 1) = 2 ^ q * (2 * e) ||| 2 ^ q := by
    have a1 : ∀ z, 2 ^ q * z = z <<< q := fun z => by rw [Nat.shiftLeft_eq, Nat.mul_comm]
    have a2 : 2 ^ q = 1 <<< q := by rw [Nat.shiftLeft_eq, Nat.one_mul]
    have a3 : 2 * e + 1 = 2 * e ||| 1 := by
      have := Nat.two_pow_add_eq_or_of_lt (i := 1) (b := 1) (by omega) e
      simpa using this
    rw [a1, a1, a3, Nat.shiftLeft_or_distrib, ← a2]
  have h4 : 2 ^ q * (2 * e) + r + 2 ^ q = 2 ^ q * (2 * e + 1) + r := by rw [Nat.mul_add, Nat.mul_one]; omega
  rw [h4, h2, h1, h3, Nat.or_assoc, Nat.or_assoc, Nat.or_comm r]
def gPre (n k p : Nat) : Nat → List (Nat × Nat)
  | 0 => []
  | r + 1 => gPre n k p r ++ gRow n k (2 ^ (p - r))
theorem gStage_split (n k p : Nat) : ∀ r, r ≤ p → gStage n k p = gPre n k p r ++ gStage n k (p - r)
  | 0, _ => rfl
  | r + 1, h => by
    rw [gStage_split n k p r (by omega)]
    obtain ⟨d, hd⟩ : ∃ d, p - r = d + 1 := ⟨p - r - 1, by omega⟩
    have e : p - (r + 1) = d := by omega
    show gPre n k p r ++ gStage n k (p - r) = (gPre n k p r ++ gRow n k (2 ^ (p - r))) ++ gStage n k (p - (r + 1))
    rw [hd, e, List.append_assoc]
    rfl
theorem gPre_all (n k p : Nat) : gPre n k p (p + 1) = gStage n k p := by
  rw [gStage_split n k p p (Nat.le_refl _)]
  show gPre n k p p ++ gRow n k (2 ^ (p - p)) = _
  rw [Nat.sub_self]
  rfl
theorem gTo_pre {n p : Nat} : ∀ {m : Nat}, p ≤ m → gTo n p <+: gTo n m
  | 0, h => by
    obtain rfl : p = 0 := by omega
    exact List.prefix_refl _
  | m + 1, h => by
    by_cases e : p = m + 1
    · subst e; exact List.prefix_refl _
    · exact (gTo_pre (show p ≤ m by omega)).trans (List.prefix_append _ _)
def come (n p r i : Nat) : List (Nat × Nat) := gTo n p ++ (gPre n (2 ^ (p + 1)) p r ++ (List.range i).flatMap (gAt (2 ^ (p + 1)) (2 ^ (p - r))))
theorem come_pre {m p r i : Nat} (hp : p < m) (hr : r ≤ p) (hi : i ≤ 2 ^ m) : come (2 ^ m) p r i <+: gates m := by
  have h1 : gTo (2 ^ m) (p + 1) <+: gates m := gTo_pre (show p + 1 ≤ m by omega)
  refine List.IsPrefix.trans ?_ h1
  show _ <+: gTo (2 ^ m) p ++ gStage (2 ^ m) (2 ^ (p + 1)) p
  rw [gStage_split (2 ^ m) (2 ^ (p + 1)) p r hr]
  unfold come
  refine (List.prefix_append_right_inj _).2 ((List.prefix_append_right_inj _).2 ?_)
  have hrow : (List.range i).flatMap (gAt (2 ^ (p + 1)) (2 ^ (p - r))) <+: gRow (2 ^ m) (2 ^ (p + 1)) (2 ^ (p - r)) := by
    unfold gRow
    obtain ⟨d, hd⟩ : ∃ d, 2 ^ m = i + d := ⟨2 ^ m - i, by omega⟩
    rw [hd, List.range_add, List.flatMap_append]
    exact List.prefix_append _ _
  refine hrow.trans ?_
  cases hpr : p - r with
  | zero => exact List.prefix_refl _
  | succ d => exact List.prefix_append _ _
theorem come_succ (n p r i : Nat) : come n p r (i + 1) = come n p r i ++ gAt (2 ^ (p + 1)) (2 ^ (p - r)) i := by
  unfold come
  rw [List.range_succ, List.flatMap_append, List.append_assoc, List.append_assoc]
  simp
theorem come_row (n p r : Nat) : come n p r n = gTo n p ++ gPre n (2 ^ (p + 1)) p (r + 1) := rfl
theorem come_0 (n p r : Nat) : come n p r 0 = gTo n p ++ gPre n (2 ^ (p + 1)) p r := by unfold come; simp
theorem come_stage (n p : Nat) : gTo n p ++ gPre n (2 ^ (p + 1)) p (p + 1) = gTo n (p + 1) := by rw [gPre_all]; rfl
theorem pre_at {α : Type} {l : List α} {d : List α} {x : α} (h : d ++ [x] <+: l) : ∃ hk : d.length < l.length, l[d.length] = x := by
  obtain ⟨t, rfl⟩ := h
  exact ⟨by simp, by simp⟩
end Go.Sl.NetS
namespace Go.Sl
open Go
def Yield (P : Program) (l : Nat) (vs : List Value) (A B C : Asrt) : Prop :=
  ∀ w0 F w, St w0 w [F, A] → ∃ fn tmps assign body, (Instr.yield l vs.toArray).run P w = .ok (.round l fn tmps assign body) w ∧
    RoundIn Fence.wide 0 P l fn tmps assign body w (Ret fun r w' => (r = .bool true ∧ St w0 w' [F, B]) ∨ (r = .bool false ∧ St w0 w' [F, C]))
def Gives (P : Program) (F : FuncId) (lb : List Value) (Mi : List Asrt) (xs : List (List Value)) : Prop :=
  ∀ (l : Nat) (J : Nat → Asrt) (E : Asrt), (∀ k (h : k < xs.length), Yield P l xs[k] (J k) (J (k + 1)) E) →
    Con P F (.func (.yield l) #[] #[] :: lb) (J 0 :: Mi) (fun r N => N = J xs.length :: Mi ∨ N = E :: Mi)

section ops
variable {P : Program} {w0 : World} {ops : Array Oper} {rest : List Oper} {ρ : Env} {M R : List Asrt} {K : XK} {dst : Option Nat} {ty : TypeId} {pos : String} {after : Array Edge}
theorem Zox {f : Operand} {ars : Array Operand} {ts : Array TypeId} {l : Nat} {vs : List Value} {A B C : Asrt} (hf : ev ρ f = .func (.yield l) #[] #[]) (hy : Yield P l vs A B C) (ha : argL ρ #[] ars #[] = vs) (hs : Has M A R)
    (k1 : xOps P w0 ops rest (put ρ dst (.bool true)) (B :: R) K) (k2 : xOps P w0 ops rest (put ρ dst (.bool false)) (C :: R) K) :
    xOps P w0 ops (⟨dst, .call { callee := .value f, args := ars, argTypes := ts }, ty, pos, after, none⟩ :: rest) ρ M K := by
  intro F w H
  have H1 : St w0 w [all (F :: R), A] := by
    have h1 : Imp (F :: M) (A :: (F :: R)) := (Imp.cons (Imp.has hs)).trans Imp.swap
    have h2 : Imp (A :: (F :: R)) ((F :: R) ++ [A]) := Imp.comm (L := [A]) (M := F :: R)
    exact H.ent (h1.trans (h2.trans Imp.app))
  obtain ⟨fn, tmps, assign, body, hrun, hround⟩ := hy w0 _ w H1
  refine Zcy ?_
  have e : (execOp (ev ρ) ⟨dst, .call { callee := .value f, args := ars, argTypes := ts }, ty, pos, after, none⟩).run P w = .ok (.round l fn tmps assign body) w := by
    unfold execOp
    simp only [resolve, hf, Deferred.ofValue, pure_bind, invoke]
    have : #[] ++ Array.map (ev ρ) ars = vs.toArray := by
      apply Array.ext'
      simp [← ha, argL]
    rw [this]
    exact hrun
  rw [e]
  have back : ∀ (B : Asrt) (w' : World), St w0 w' [all (F :: R), B] → St w0 w' (F :: (B :: R)) := fun B w' h => by
    have h1 : Imp [all (F :: R), B] ((F :: R) ++ [B]) := Imp.unapp
    have h2 : Imp ((F :: R) ++ [B]) (B :: (F :: R)) := Imp.comm (L := F :: R) (M := [B])
    exact h.ent (h1.trans (h2.trans Imp.swap))
  refine RoundIn.mono hround (Ret.mono ?_)
  rintro r w' (⟨rfl, H'⟩|⟨rfl, H'⟩)
  · exact k1 F w' (back _ _ H')
  · exact k2 F w' (back _ _ H')
end ops

theorem enters_x {P : Program} {F : FuncId} (hb : callable P F = true) (args : Array Value) (w : World) : (callFunc F args).run P w = .ok (.enter F args) w := by
  unfold callFunc
  unfold callable at hb
  show ((program >>= _) : Sem Next).run P w = _
  rw [run_bind P _ _ w w P rfl]
  split at hb
  · rename_i fn hfn
    simp only [hfn]
    simp only [Bool.and_eq_true, bne_iff_ne, ne_eq, Option.isSome_iff_ne_none] at hb
    rw [if_neg (by simp [hb.1]), if_neg (by simp [hb.2])]
    rfl
  · cases hb
def mksD (ds : List Nat) : List Deferred := ds.map fun D => { target := .collected D, args := #[] }
def mksP (ds : List Nat) : List Asrt := ds.map fun D => pt D (.deferred (some []))
def leaveX (w0 : World) (F : Asrt) (Φ : Value → List Asrt → Prop) : Ending → World → Prop := Ret fun v w' => ∃ M', St w0 w' (F :: M') ∧ Φ v M'
def xS (P : Program) (fn : Func) (n : Nat) (ds : List Nat) (w0 : World) (c : Code) (ρ : Env) (M : List Asrt) (Φ : Value → List Asrt → Prop) : Prop :=
  ∀ F w, St w0 w (F :: (mksP ds ++ M)) → ∀ a, Fr (mksD ds) n a ρ → c.wpIn Fence.wide 0 P (bodyPostM Fence.wide 0 P fn (leaveX w0 F Φ)) a w
def xT (P : Program) (fn : Func) (n : Nat) (ds : List Nat) (w0 : World) (b y : Code) (ρ : Env) (M : List Asrt) (Φ : Value → List Asrt → Prop) : Prop :=
  ∀ F w, St w0 w (F :: (mksP ds ++ M)) → ∀ a, Fr (mksD ds) n a ρ → b.wpIn Fence.wide 0 P (Exit.then (y.wpIn Fence.wide 0 P (bodyPostM Fence.wide 0 P fn (leaveX w0 F Φ))) (bodyPostM Fence.wide 0 P fn (leaveX w0 F Φ))) a w
section spine
variable {P : Program} {fn : Func} {n : Nat} {ds : List Nat} {w0 : World} {c x y : Code} {ρ : Env} {M R : List Asrt} {Φ : Value → List Asrt → Prop} {rs : List ResultVar}
theorem leaves_x (hr : fn.results.toList = rs) {dd : List Deferred} {a : Act} (hfr : Fr dd n a ρ) (hq : retX P w0 rs Φ .ret ρ M) : ∀ (ds : List Nat) (F : Asrt) (w : World), St w0 w (F :: (mksP ds ++ M)) → LeavesInM Fence.wide 0 P fn a.tmps (leaveX w0 F Φ) (mksD ds) .returning w
  | [], F, w, H => by
    obtain ⟨vs, N, h1, h2, h3⟩ := hq
    have H : St w0 w (F :: M) := H
    exact ⟨packV vs, results_run hfr (by rw [hr]; exact h1 F w H), _, rfl, N, H.enx h3, h2⟩
  | D :: ds, F, w, H => by
    have H : St w0 w (F :: (pt D (.deferred (some [])) :: (mksP ds ++ M))) := H
    have H2 : St w0 (w.putObj D (.deferred none)) (pt D (.deferred none) :: (F :: (mksP ds ++ M))) := H.swap.set (.deferred none)
    exact ⟨fun hh => (by cases hh), .inl ⟨D, _, rfl, run_takeDeferred H.swap.pt_get, leaves_x hr hfr hq ds F _ H2.drop⟩⟩
theorem xS_c (hm : P.follows .mixedOrders = true) (hr : fn.results.toList = rs) (hc : cfits n c = true) (h : xC P w0 c ρ M (retX P w0 rs Φ)) : xS P fn n ds w0 c ρ M Φ := by
  intro F w H a hfr
  have H' : St w0 w (all (F :: mksP ds) :: M) := St.ent (N := all (F :: mksP ds) :: M) H (Imp.app (L := F :: mksP ds) (M := M))
  refine wpIn_mono (Zow (r := none) (k := 0) hm c ρ w _ a (.inl rfl) hfr hc (h _ w H')) ?_
  rintro e a' w' ⟨ρ', hfr', M', H'', hq⟩
  have H3 : St w0 w' (F :: (mksP ds ++ M')) := H''.ent (Imp.unapp (L := F :: mksP ds) (M := M'))
  cases e <;> first
    | (show LeavesInM _ _ _ _ _ _ _ _ _
       rw [hfr'.defs]
       exact leaves_x hr hfr' hq ds F w' H3)
    | exact hq.elim
theorem xS_seq (hm : P.follows .mixedOrders = true) (hr : fn.results.toList = rs) (hc : cfits n x = true) (h : xC P w0 x ρ M (xthen (fun ρ' M' => xS P fn n ds w0 y ρ' M' Φ) (retX P w0 rs Φ))) : xS P fn n ds w0 (.seq x y) ρ M Φ := by
  intro F w H a hfr
  have H' : St w0 w (all (F :: mksP ds) :: M) := St.ent (N := all (F :: mksP ds) :: M) H (Imp.app (L := F :: mksP ds) (M := M))
  refine wpIn_seq (wpIn_mono (Zow (r := none) (k := 0) hm x ρ w _ a (.inl rfl) hfr hc (h _ w H')) ?_)
  rintro e a' w' ⟨ρ', hfr', M', H'', hq⟩
  have H3 : St w0 w' (F :: (mksP ds ++ M')) := H''.ent (Imp.unapp (L := F :: mksP ds) (M := M'))
  cases e <;> first
    | exact hq F w' H3 a' hfr'
    | (show LeavesInM _ _ _ _ _ _ _ _ _
       rw [hfr'.defs]
       exact leaves_x hr hfr' hq ds F w' H3)
    | exact hq.elim
theorem xS_t {b : Code} (h : xT P fn n ds w0 b y ρ M Φ) : xS P fn n ds w0 (.seq b y) ρ M Φ := fun F w H a hfr => wpIn_seq (h F w H a hfr)
theorem xT_seq {b : Code} (hm : P.follows .mixedOrders = true) (hr : fn.results.toList = rs) (hc : cfits n x = true) (h : xC P w0 x ρ M (xthen (fun ρ' M' => xT P fn n ds w0 b y ρ' M' Φ) (retX P w0 rs Φ))) : xT P fn n ds w0 (.seq x b) y ρ M Φ := by
  intro F w H a hfr
  have H' : St w0 w (all (F :: mksP ds) :: M) := St.ent (N := all (F :: mksP ds) :: M) H (Imp.app (L := F :: mksP ds) (M := M))
  refine wpIn_seq (wpIn_mono (Zow (r := none) (k := 0) hm x ρ w _ a (.inl rfl) hfr hc (h _ w H')) ?_)
  rintro e a' w' ⟨ρ', hfr', M', H'', hq⟩
  have H3 : St w0 w' (F :: (mksP ds ++ M')) := H''.ent (Imp.unapp (L := F :: mksP ds) (M := M'))
  cases e <;> first
    | exact hq F w' H3 a' hfr'
    | (show LeavesInM _ _ _ _ _ _ _ _ _
       rw [hfr'.defs]
       exact leaves_x hr hfr' hq ds F w' H3)
    | exact hq.elim
theorem fn_s {f : FuncId} {args : List Value} (hf : P.funcs[f]? = some fn) (hb : fn.body = some c) (hn : fn.ntmps = n) (hfit : Nat.ble args.length n = true)
    (h : ∀ w0, xS P fn n [] w0 c (nth args) M Φ) : Con P f args M Φ := by
  intro w0 F w H
  have hlen : args.length ≤ n := Nat.le_of_ble_eq_true hfit
  refine (callsIn_wide (n := 0)).1 (callsIn_of_wp_marks (R := leaveX w0 F Φ) hf hb trivial (h w0 F w H _ ?_))
  refine ⟨fun t => ?_, ?_, rfl⟩
  · rw [nth_eq]
    simp only [Array.getD_eq_getD_getElem?, List.getD_eq_getElem?_getD]
    by_cases ht : t < args.length
    · rw [Array.getElem?_append_left (by simpa using ht)]
      simp
    · rw [Array.getElem?_append_right (by simpa using ht), List.getElem?_eq_none (by omega)]
      simp only [Array.getElem?_replicate]
      split <;> rfl
  · simp [hn]; omega
def putl (ρ : Env) (ps : List Tmp) (vs : List Value) : Env := (ps.zip vs).foldl (fun ρ (p, v) => put ρ (some p) v) ρ
theorem fr_putl {dd : List Deferred} : ∀ (l : List (Tmp × Value)) (a : Array Value) (ρ : Env), (∀ t, a.getD t undef = ρ t) → a.size = n → (∀ p ∈ l, p.1 < n) → Fr [] n { tmps := l.foldl (fun (t : Array Value) (x : Tmp × Value) => t.setIfInBounds x.1 x.2) a, defers := [] } (l.foldl (fun ρ (x : Tmp × Value) => put ρ (some x.1) x.2) ρ)
  | [], a, ρ, h1, h2, _ => ⟨h1, h2, rfl⟩
  | (p, v) :: l, a, ρ, h1, h2, h3 => by
    have hfr : Fr [] n { tmps := a, defers := [] } ρ := ⟨h1, h2, rfl⟩
    have hp := hfr.put (d := some p) (fun k hk => by cases hk; exact h3 (p, v) List.mem_cons_self) v
    exact fr_putl (dd := dd) l _ _ hp.val hp.size fun q hq => h3 q (List.mem_cons_of_mem _ hq)
def xround {S T : Type} (I : S → Prop) (Mf : S → List Asrt) (Mt : T → List Asrt) : XQ := fun e _ M => match e with|.normal => ∃ s, I s ∧ Imp M (Mf s)|.ret => ∃ t, Imp M (Mt t)|_ => False
theorem Zoy {S T : Type} {I : S → Prop} {Mf : S → List Asrt} {Mt : T → List Asrt} (s : S) (hI : I s) (hM : Imp M (Mf s)) : xround I Mf Mt .normal ρ M := ⟨s, hI, hM⟩
theorem Zoz {S T : Type} {I : S → Prop} {Mf : S → List Asrt} {Mt : T → List Asrt} (t : T) (hM : Imp M (Mt t)) : xround I Mf Mt .ret ρ M := ⟨t, hM⟩
set_option maxHeartbeats 1000000 in
theorem xT_rf {bid : Nat} {g : Operand} {ps : Array Tmp} {assign body : Code} {gf : FuncId} {lb : Array Value} {Mi N : List Asrt} {xs : List (List Value)} (hm : P.follows .mixedOrders = true) (hr : fn.results.toList = rs)
    (hg : ev ρ g = .func (.func gf) #[] lb) (hcal : callable P gf = true) (hit : Gives P gf lb.toList Mi xs) (hs : Imp M (Mi ++ N))
    (hc : (cfits n assign && cfits n body && plainC assign && plainC body && ps.toList.all (fun p => Nat.blt p n)) = true) (hps : ∀ v ∈ xs, v.length = ps.size)
    {S T : Type} (I : Nat → S → Prop) (Mf : S → List Asrt) (Mt : T → List Asrt) (s0 : S) (h0 : I 0 s0) (hM : Imp N (Mf s0))
    (round : ∀ k (hk : k < xs.length) s w0, I k s → xC P w0 assign (putl ρ ps.toList xs[k]) (Mf s) (xthen (fun ρ' M' => xC P w0 body ρ' M' (xround (I (k + 1)) Mf Mt)) (fun _ _ _ => False)))
    (done : ∀ s D, I xs.length s → xS P fn n (D :: ds) w0 y ρ (Mf s ++ Mi) Φ) (stop : ∀ t, retX P w0 rs Φ .ret ρ (Mt t ++ Mi)) : xT P fn n ds w0 (.block bid (.rangeFunc g ps assign body)) y ρ M Φ := by
  intro F w H a hfr
  simp only [Bool.and_eq_true] at hc
  obtain ⟨⟨⟨⟨hc1, hc2⟩, hc3⟩, hc4⟩, hc5⟩ := hc
  refine wpIn_block (wpIn_rangeFunc ?_)
  intro id _
  obtain ⟨rec, hrec⟩ : ∃ rec : LoopState → Option Code → Loop, rec = fun st pe => { state := st, pending := pe, fn := id, tmps := a.tmps, params := ps, assign, body, defers := w.heap.size } := ⟨_, rfl⟩
  obtain ⟨L, hL⟩ : ∃ L, L = w.heap.size + 1 := ⟨_, rfl⟩
  obtain ⟨W1, hW1⟩ : ∃ W1, (w.alloc (.deferred (some []))).alloc (.loop (rec .ready none)) = W1 := ⟨_, rfl⟩
  have H1 : St w0 W1 (pt L (.loop (rec .ready none)) :: pt w.heap.size (.deferred (some [])) :: (F :: (mksP ds ++ M))) := by
    have h1 := (H.alloc (.deferred (some []))).alloc (.loop (rec .ready none))
    have e : ({ w with heap := w.heap.push (.deferred (some [])) } : World).heap.size = L := by rw [hL]; simp
    rw [e] at h1
    rw [← hW1]
    exact h1
  -- the pieces that stand by
  generalize hD : w.heap.size = D at *
  have himp : Imp (pt L (.loop (rec .ready none)) :: pt D (.deferred (some [])) :: (F :: (mksP ds ++ M))) (all (F :: mksP (D :: ds)) :: (all (pt L (.loop (rec .ready none)) :: Mf s0) :: Mi)) := by
    have a1 : Imp (mksP ds ++ M) (mksP ds ++ (Mi ++ Mf s0)) := Imp.left (hs.trans (Imp.left hM))
    have a2 : Imp (pt L (.loop (rec .ready none)) :: pt D (.deferred (some [])) :: (F :: (mksP ds ++ M))) (pt L (.loop (rec .ready none)) :: pt D (.deferred (some [])) :: (F :: (mksP ds ++ (Mi ++ Mf s0)))) := Imp.cons (Imp.cons (Imp.cons a1))
    have a3 : Imp (pt D (.deferred (some [])) :: (F :: (mksP ds ++ (Mi ++ Mf s0)))) (F :: (mksP (D :: ds) ++ (Mi ++ Mf s0))) := Imp.swap
    have a4 : Imp (F :: (mksP (D :: ds) ++ (Mi ++ Mf s0))) (all (F :: mksP (D :: ds)) :: (Mi ++ Mf s0)) := Imp.app (L := F :: mksP (D :: ds))
    have a5 : Imp (Mi ++ Mf s0) (Mf s0 ++ Mi) := Imp.comm
    refine a2.trans ((Imp.cons (a3.trans (a4.trans (Imp.cons a5)))).trans (Imp.swap.trans (Imp.cons ?_)))
    exact Imp.app (L := pt L (.loop (rec .ready none)) :: Mf s0) (M := Mi)
  let J : Nat → Asrt := fun k => ex fun s : { s : S // I k s } => all (pt L (.loop (rec .ready none)) :: Mf s.1)
  let E : Asrt := ex fun t : T => all (pt L (.loop (rec .done (some .ret))) :: Mt t)
  have H2 : St w0 W1 (all (F :: mksP (D :: ds)) :: (J 0 :: Mi)) := (H1.ent himp).enx (Imp.head fun f hf => ⟨⟨s0, h0⟩, hf⟩)
  have hY : ∀ k (h : k < xs.length), Yield P L xs[k] (J k) (J (k + 1)) E := by
    intro k hk w0' F' w1 K1
    obtain ⟨⟨s, hI⟩, K1⟩ := K1.swap.ex_get
    have K2 : St w0' w1 (pt L (.loop (rec .ready none)) :: (Mf s ++ [F'])) := K1.all_get
    have hrun := run_yield (P := P) (args := (xs[k]).toArray) K2.pt_get (by rw [hrec]; simp [hps _ (List.getElem_mem hk)])
    rw [hrec] at hrun
    refine ⟨_, _, _, _, hrun, roundIn_of_wpIn trivial ?_⟩
    have hfr0 : Fr [] n { tmps := (ps.zip (xs[k]).toArray).foldl (fun tmps (t, a) => tmps.setIfInBounds t a) a.tmps, defers := [] } (putl ρ ps.toList xs[k]) := by
      have := fr_putl (dd := []) (n := n) (ps.toList.zip xs[k]) a.tmps ρ hfr.val hfr.size (fun p hp => by
        have := List.all_eq_true.1 hc5 p.1 (List.of_mem_zip hp).1
        exact Nat.le_of_ble_eq_true this)
      rw [← Array.foldl_toList, Array.toList_zip]
      exact this
    have K3 : St w0' w1 (all [F', pt L (.loop (rec .ready none))] :: Mf s) := by
      refine K2.ent ?_
      have b1 : Imp (pt L (.loop (rec .ready none)) :: (Mf s ++ [F'])) (pt L (.loop (rec .ready none)) :: ([F'] ++ Mf s)) := Imp.cons Imp.comm
      exact b1.trans (Imp.swap.trans (Imp.app (L := [F', pt L (.loop (rec .ready none))]) (M := Mf s)))
    refine wpIn_mono (Zow (r := some L) (k := 0) hm assign _ w1 _ _ (.inr hc3) hfr0 hc1 (round k hk s w0' hI _ w1 K3)) ?_
    rintro e a2 w2 ⟨ρ2, hfr2, M2, K4, hq⟩
    cases e with
    | normal =>
      have hq : xC P w0' body ρ2 M2 (xround (I (k + 1)) Mf Mt) := hq
      have K5 : St w0' w2 (pt L (.loop (rec .ready none)) :: (F' :: M2)) := K4.ent ((Imp.unapp (L := [F', pt L (.loop (rec .ready none))]) (M := M2)).trans Imp.swap)
      have hbr := run_beginRound (P := P) K5.pt_get (by rw [hrec])
      refine ⟨_, hbr, ?_⟩
      have K6 : St w0' (w2.putObj L (.loop { rec .ready none with state := .busy })) (all [F', pt L (.loop (rec .busy none))] :: M2) := by
        have := K5.set (.loop { rec .ready none with state := .busy })
        rw [hrec] at this ⊢
        exact this.ent (Imp.swap.trans (Imp.app (L := [F', _]) (M := M2)))
      refine wpIn_mono (Zow (r := some L) (k := 0) hm body ρ2 _ _ a2 (.inr hc4) hfr2 hc2 (hq _ _ K6)) ?_
      rintro e a3 w3 ⟨ρ3, hfr3, M3, K7, hp⟩
      have K8 : St w0' w3 (pt L (.loop (rec .busy none)) :: (F' :: M3)) := K7.ent ((Imp.unapp (L := [F', pt L (.loop (rec .busy none))]) (M := M3)).trans Imp.swap)
      cases e with
      | normal =>
        obtain ⟨s', hI', hM'⟩ := hp
        refine ⟨_, _, run_endRound none K8.pt_get, _, rfl, .inl ⟨rfl, ?_⟩⟩
        have := K8.set (.loop { rec .busy none with state := .ready, pending := none })
        rw [hrec] at this ⊢
        refine St.ent (N := [F', J (k + 1)]) this (Imp.swap.trans (Imp.cons ?_))
        have c1 := (Imp.cons (A := pt L (.loop (rec .ready none))) hM').trans (by have := Imp.app (L := pt L (.loop (rec .ready none)) :: Mf s') (M := []); rwa [List.append_nil] at this)
        rw [hrec] at c1
        refine c1.trans (Imp.head fun f hf => ⟨⟨s', hI'⟩, ?_⟩)
        rw [hrec]; exact hf
      | ret =>
        obtain ⟨t, hM'⟩ := hp
        refine ⟨_, _, run_endRound (some .ret) K8.pt_get, _, rfl, .inr ⟨rfl, ?_⟩⟩
        have := K8.set (.loop { rec .busy none with state := .done, pending := some .ret })
        rw [hrec] at this ⊢
        refine St.ent (N := [F', E]) this (Imp.swap.trans (Imp.cons ?_))
        have c1 := (Imp.cons (A := pt L (.loop (rec .done (some .ret)))) hM').trans (by have := Imp.app (L := pt L (.loop (rec .done (some .ret))) :: Mt t) (M := []); rwa [List.append_nil] at this)
        rw [hrec] at c1
        refine c1.trans (Imp.head fun f hf => ⟨t, ?_⟩)
        rw [hrec]; exact hf
      | exit id => exact hp.elim
      | goto t => exact hp.elim
      | panic ch => exact hp.elim
      | outgrown => exact hp.elim
    | exit id => exact hq.elim
    | goto t => exact hq.elim
    | ret => exact hq.elim
    | panic ch => exact hq.elim
    | outgrown => exact hq.elim
  have hcall := (callsIn_wide (n := 0 - 1)).2 (hit L J E hY w0 _ W1 H2)
  refine ⟨L, [{ target := .collected D, args := #[] }], W1, { target := .fn (.func gf) lb, args := #[.func (.yield L) #[] #[]] }, W1, gf, (.func (.yield L) #[] #[] :: lb.toList).toArray, W1, ?_, ?_, fun _ _ => trivial, ?_, wide_dep (r := none), ?_⟩
  · rw [← hW1, hrec, hL]
    have := run_enterLoop_outer (P := P) (w := w) id a.tmps ps assign body
    rw [hD] at this
    exact this
  · have hev : a.eval g = .func (.func gf) #[] lb := by rw [hfr.eval]; exact hg
    simp only [resolve, hev]
    simp [go_sem]
  · have := enters_x hcal (.func (.yield L) #[] #[] :: lb.toList).toArray W1
    simp only [invoke]
    rw [show #[Value.func (.yield L) #[] #[]] ++ lb = (.func (.yield L) #[] #[] :: lb.toList).toArray by apply Array.ext'; simp]
    exact this
  · refine CallsIn.mono hcall ?_
    rintro e w3 ⟨v, rfl, N', H3, rfl|rfl⟩
    · have H4 := H3.enx (M := J xs.length :: Mi) (N := J xs.length :: Mi) (Imp.refl _)
      obtain ⟨⟨s, hI⟩, H5⟩ := H4.swap.ex_get
      have H6 : St w0 w3 (pt L (.loop (rec .ready none)) :: (Mf s ++ (all (F :: mksP (D :: ds)) :: Mi))) := H5.all_get
      obtain ⟨w4, hw4⟩ : ∃ w4, w4 = w3.putObj L (.loop { rec .ready none with state := .exhausted }) := ⟨_, rfl⟩
      refine ⟨_, w4, by rw [hw4]; exact run_endLoop H6.pt_get (by rw [hrec]; simp), ?_⟩
      have H7 : St w0 w4 (F :: (mksP (D :: ds) ++ (Mf s ++ Mi))) := by
        rw [hw4]
        refine (H6.set (.loop { rec .ready none with state := .exhausted })).drop.ent ?_
        have d1 : Imp (Mf s ++ (all (F :: mksP (D :: ds)) :: Mi)) ((all (F :: mksP (D :: ds)) :: Mi) ++ Mf s) := Imp.comm
        have d2 : Imp ((all (F :: mksP (D :: ds)) :: Mi) ++ Mf s) (all (F :: mksP (D :: ds)) :: (Mf s ++ Mi)) := Imp.cons Imp.comm
        exact d1.trans (d2.trans (Imp.unapp (L := F :: mksP (D :: ds)) (M := Mf s ++ Mi)))
      have hpe : (rec .ready none).pending = none := by rw [hrec]
      rw [hpe]
      have hfr' : Fr (mksD (D :: ds)) n { a with defers := [{ target := .collected D, args := #[] }] ++ a.defers } ρ := ⟨hfr.val, hfr.size, by show _ :: a.defers = _; rw [hfr.defs]; rfl⟩
      exact done s D hI F _ H7 _ hfr'
    · have H4 := H3.enx (M := E :: Mi) (N := E :: Mi) (Imp.refl _)
      obtain ⟨t, H5⟩ := H4.swap.ex_get
      have H6 : St w0 w3 (pt L (.loop (rec .done (some .ret))) :: (Mt t ++ (all (F :: mksP (D :: ds)) :: Mi))) := H5.all_get
      obtain ⟨w4, hw4⟩ : ∃ w4, w4 = w3.putObj L (.loop { rec .done (some .ret) with state := .exhausted }) := ⟨_, rfl⟩
      refine ⟨_, w4, by rw [hw4]; exact run_endLoop H6.pt_get (by rw [hrec]; simp), ?_⟩
      have H7 : St w0 w4 (F :: (mksP (D :: ds) ++ (Mt t ++ Mi))) := by
        rw [hw4]
        refine (H6.set (.loop { rec .done (some .ret) with state := .exhausted })).drop.ent ?_
        have d1 : Imp (Mt t ++ (all (F :: mksP (D :: ds)) :: Mi)) ((all (F :: mksP (D :: ds)) :: Mi) ++ Mt t) := Imp.comm
        have d2 : Imp ((all (F :: mksP (D :: ds)) :: Mi) ++ Mt t) (all (F :: mksP (D :: ds)) :: (Mt t ++ Mi)) := Imp.cons Imp.comm
        exact d1.trans (d2.trans (Imp.unapp (L := F :: mksP (D :: ds)) (M := Mt t ++ Mi)))
      have hpe : (rec .done (some .ret)).pending = some .ret := by rw [hrec]
      rw [hpe]
      refine wpIn_ret ?_
      have hfr' : Fr (mksD (D :: ds)) n { a with defers := [{ target := .collected D, args := #[] }] ++ a.defers } ρ := ⟨hfr.val, hfr.size, by show _ :: a.defers = _; rw [hfr.defs]; rfl⟩
      show LeavesInM _ _ _ _ _ _ _ _ _
      rw [hfr'.defs]
      exact leaves_x hr hfr' (stop t) (D :: ds) F _ H7
end spine
end Go.Sl
namespace Go.Sl
open Go
theorem Znr {P : Program} {ρ : Env} {x y : Operand} {S i : Nat} {k : IntKind} {s : ByteArray} {b : Byte} (hS : P.underlying S = some .string) (hx : ev ρ x = .string s) (hy : ev ρ y = .int k (i : Int)) (hb : s[i]? = some (UInt8.ofBitVec b)) : PV P (.index S x y) ρ (u8b b) := by
  intro oo w ho; unfold execOp; rw [ho]; refine op_run_value ?_; rw [hx, hy]
  unfold Instr.index
  simp only [asIntOf, pure_bind]
  rw [run_bind P _ _ w w _ (run_under hS)]
  simp only []
  rw [if_pos (by omega), Int.toNat_natCast, hb]
  rfl
end Go.Sl
namespace Go.Sl
open Go
theorem Imp.snd : ∀ {A B : List Asrt}, Imp (A ++ B) B
  | [], B => Imp.refl B
  | _ :: A, B => Imp.tail.trans (Imp.snd (A := A) (B := B))
theorem Imp.fst {A B : List Asrt} : Imp (A ++ B) A := Imp.comm.trans Imp.snd
section
variable {P : Program} {ρ : Env} {T T' : Nat} {x y : Operand} {a b : Nat}
theorem ofInt_natB (a : Nat) : (BitVec.ofInt 64 (a : Int)) = BitVec.ofNat 64 a := by
  apply BitVec.eq_of_toNat_eq
  rw [BitVec.toNat_ofInt, BitVec.toNat_ofNat]
  omega
theorem Zo0 (hx : ev ρ x = .int .i64 (a : Int)) (hy : ev ρ y = .int .i64 (b : Int)) (ha : a ≤ 9223372036854775807 := by first|omega|exact Nat.le_of_ble_eq_true rfl|(simp; done)|(simp; omega)|decide) (hb : b ≤ 9223372036854775807 := by first|omega|exact Nat.le_of_ble_eq_true rfl|(simp; done)|(simp; omega)|decide) : PV P (.binOp .and T x y T') ρ (.int .i64 ((a &&& b : Nat) : Int)) := by
  have := Zbu (P := P) (T := T) (T' := T') hx hy
  have e : (BitVec.ofInt IntKind.i64.bits (a : Int) &&& BitVec.ofInt IntKind.i64.bits (b : Int)).toNat = a &&& b := by
    show (BitVec.ofInt 64 (a : Int) &&& BitVec.ofInt 64 (b : Int)).toNat = _
    rw [ofInt_natB, ofInt_natB, BitVec.toNat_and, BitVec.toNat_ofNat, BitVec.toNat_ofNat, Nat.mod_eq_of_lt (by omega), Nat.mod_eq_of_lt (by omega)]
  have hle : a &&& b ≤ a := Nat.and_le_left
  rw [e, IntWalk.i64_in _ ⟨by omega, by omega⟩] at this
  exact this
theorem Zo1 (hx : ev ρ x = .int .i64 (a : Int)) (hy : ev ρ y = .int .i64 (b : Int)) (ha : a < 4611686018427387904 := by first|omega|exact Nat.le_of_ble_eq_true rfl|(simp; done)|(simp; omega)|decide) (hb : b < 4611686018427387904 := by first|omega|exact Nat.le_of_ble_eq_true rfl|(simp; done)|(simp; omega)|decide) : PV P (.binOp .or T x y T') ρ (.int .i64 ((a ||| b : Nat) : Int)) := by
  have := Zbv (P := P) (T := T) (T' := T') hx hy
  have e : (BitVec.ofInt IntKind.i64.bits (a : Int) ||| BitVec.ofInt IntKind.i64.bits (b : Int)).toNat = a ||| b := by
    show (BitVec.ofInt 64 (a : Int) ||| BitVec.ofInt 64 (b : Int)).toNat = _
    rw [ofInt_natB, ofInt_natB, BitVec.toNat_or, BitVec.toNat_ofNat, BitVec.toNat_ofNat, Nat.mod_eq_of_lt (by omega), Nat.mod_eq_of_lt (by omega)]
  have hlt : a ||| b < 2 ^ 62 := Nat.or_lt_two_pow (by omega) (by omega)
  rw [e, IntWalk.i64_in _ ⟨by omega, by omega⟩] at this
  exact this
theorem Zo2 {k' : IntKind} (hx : ev ρ x = .int .i64 (a : Int)) (hy : ev ρ y = .int k' (b : Int)) (hb : b < 64) (h : a * 2 ^ b ≤ 9223372036854775807) : PV P (.binOp .shl T x y T') ρ (.int .i64 ((a * 2 ^ b : Nat) : Int)) := by
  have := Zby (P := P) (T := T) (T' := T') hx hy (by omega)
  have e : min ((b : Int)).toNat IntKind.i64.bits = b := by show min b 64 = b; omega
  have e2 : ((a : Int) * 2 ^ b) = ((a * 2 ^ b : Nat) : Int) := by push_cast; rfl
  rw [e, e2, IntWalk.i64_in _ ⟨by omega, by omega⟩] at this
  exact this
theorem Zo3 {k' : IntKind} (hx : ev ρ x = .int .i64 (a : Int)) (hy : ev ρ y = .int k' (b : Int)) (hb : b < 64) : PV P (.binOp .shr T x y T') ρ (.int .i64 ((a / 2 ^ b : Nat) : Int)) := by
  have := Zbz (P := P) (T := T) (T' := T') hx hy (by omega)
  have e : min ((b : Int)).toNat IntKind.i64.bits = b := by show min b 64 = b; omega
  rw [e] at this
  have e2 : (a : Int).fdiv (2 ^ b) = ((a / 2 ^ b : Nat) : Int) := by
    rw [Int.fdiv_eq_ediv_of_nonneg _ (Int.pow_nonneg (by omega))]
    push_cast
    rfl
  rw [e2] at this
  exact this
end
section
variable {P : Program} {w0 : World} {ops : Array Oper} {rest : List Oper} {ρ : Env} {M R : List Asrt} {K : XK} {dst : Option Nat} {ty : TypeId} {pos : String} {after : Array Edge}
theorem Zo4 {f : Operand} {ars : Array Operand} {ts : Array TypeId} {l : Nat} {vs : List Value} {A B C : Asrt} (hf : ev ρ f = .func (.yield l) #[] #[]) (hy : Yield P l vs A B C) (ha : argL ρ #[] ars #[] = vs) (hs : Has M A R)
    (k : ∀ t : Bool, xOps P w0 ops rest (put ρ dst (.bool t)) ((if t then B else C) :: R) K) :
    xOps P w0 ops (⟨dst, .call { callee := .value f, args := ars, argTypes := ts }, ty, pos, after, none⟩ :: rest) ρ M K := Zox hf hy ha hs (k true) (k false)
end
end Go.Sl
namespace Go.Sl
open Go Go.Proofs
attribute [local irreducible] pt old pur ex all den denOps denS xOps xC cX CX xthen xblk xcut xloop xng retX resX Calls PV Rd Con
open NetS (gates gTo gPre gRow gAt come)
attribute [local irreducible] NetS.gates NetS.gTo NetS.gPre NetS.gRow NetS.come
def lenN (n : Nat) : Nat := if n = 0 then 0 else n.log2 + 1
def padN (n : Nat) : Nat := if n = 0 then 0 else 2 ^ lenN (n - 1)
theorem lenN_le : ∀ n : Fin 256, lenN n.val ≤ 8 := by decide
theorem padN_pow : ∀ m : Fin 9, padN (2 ^ m.val) = 2 ^ m.val := by decide
theorem padN_le {n : Nat} (h : n ≤ 256) : padN n ≤ 256 := by
  unfold padN
  split
  · omega
  · have := lenN_le ⟨n - 1, by omega⟩
    exact Nat.pow_le_pow_right (by omega) this
theorem pv_len8 {P : Program} {ρ : Env} {x y : Operand} {S i : Nat} {k : IntKind} {s : ByteArray} [hs : TyStr P S] (hx : ev ρ x = .string s) (hy : ev ρ y = .int k (i : Int)) (hi : i < 256) (ht : ((List.range 256).map fun i => s[i]?) = ((List.range 256).map fun i => some (UInt8.ofBitVec (BitVec.ofNat 8 (lenN i))))) : PV P (.index S x y) ρ (.int .u8 (lenN i : Int)) := by
  have h : s[i]? = some (UInt8.ofBitVec (BitVec.ofNat 8 (lenN i))) := by
    have := congrArg (fun l => l[i]?) ht
    rw [List.getElem?_map, List.getElem?_map, List.getElem?_range hi] at this
    exact Option.some.inj this
  have h2 := Znr (P := P) (S := S) hs.h hx hy h
  have h3 : lenN i ≤ 8 := lenN_le ⟨i, hi⟩
  have e : (BitVec.ofNat 8 (lenN i)).toNat = lenN i := by rw [BitVec.toNat_ofNat]; omega
  have e2 : u8b (BitVec.ofNat 8 (lenN i)) = .int .u8 (lenN i : Int) := by
    show Value.int .u8 ((BitVec.ofNat 8 (lenN i)).toNat : Int) = _
    rw [e]
  rw [e2] at h2
  exact h2
theorem len64_x (n : Nat) (h : n < 256) : Con Tryz.prog 162 [u64b (BitVec.ofNat 64 n)] [] (fun r M => r = nvv (lenN n) ∧ M = []) := by
  have hl := lenN_le ⟨n, h⟩
  have hl : lenN n ≤ 8 := hl
  have e1 : (BitVec.ofNat 64 n).toNat = n := by rw [BitVec.toNat_ofNat]; omega
  have e2 : ((BitVec.ofNat 64 n).setWidth 8).toNat = n := by rw [BitVec.toNat_setWidth, e1]; omega
  refine fn_y Tryz.func162 Tryz.mixed ?_
  intro w0
  refine Y5 ?_
  refine Zhg (Zls (y := 4294967296#64) rfl rfl) ?_
  refine Zot 4 rfl ((by rw [e1]; show ¬ 4294967296 ≤ n; omega)) ?_
  refine Y4 ?_
  refine Zhg (Zls (y := 65536#64) rfl rfl) ?_
  refine Zot 8 rfl ((by rw [e1]; show ¬ 65536 ≤ n; omega)) ?_
  refine Y4 ?_
  refine Zhg (Zls (y := 256#64) rfl rfl) ?_
  refine Zot 14 rfl ((by rw [e1]; show ¬ 256 ≤ n; omega)) ?_
  refine Y5 ?_
  refine Zhg (Zlx rfl) ?_
  refine Zhg (pv_len8 (i := n) rfl (by exact congrArg (fun z : Nat => Value.int .u8 (z : Int)) e2) h (by kernel_rfl)) ?_
  refine Zhg (Zb5 rfl (by rw [IntWalk.i64_in _ ⟨by omega, by omega⟩])) ?_
  refine Zhg (Zma (a := 0) (b := lenN n) rfl rfl) ?_
  refine V2 ?_
  refine rx1 (Zg9 rfl (Zg7)) ?_
  exact ⟨_, ⟨by rw [Nat.zero_add], rfl⟩, qI⟩
theorem len_x (n : Nat) (h : n < 256) : Con Tryz.prog 126 [u64b (BitVec.ofNat 64 n)] [] (fun r M => r = nvv (lenN n) ∧ M = []) := by
  refine fn_y Tryz.func126 Tryz.mixed ?_
  intro w0
  refine Y6 ?_
  refine Zor (c := len64_x n h) (k := ?_)
  rintro _ _ ⟨rfl, rfl⟩
  refine V3 ?_
  refine rx1 (Zg9 rfl (Zg7)) ?_
  exact ⟨_, ⟨rfl, rfl⟩, qI⟩
theorem pad_x (n : Nat) (h : n ≤ 256) : Con Tryz.prog 92 [nvv n] [] (fun r M => r = nvv (padN n) ∧ M = []) := by
  by_cases h0 : n = 0
  · subst h0
    refine fn_y Tryz.func92 Tryz.mixed ?_
    intro w0
    refine Y6 ?_
    refine Zos 4 rfl ((by omega)) ?_
    refine V9 ?_
    refine rx1 (Zg9 rfl (Zg7)) ?_
    exact ⟨_, ⟨rfl, rfl⟩, qI⟩
  · have e : padN n = 1 * 2 ^ lenN (n - 1) := by unfold padN; rw [if_neg h0, Nat.one_mul]
    have hl := lenN_le ⟨n - 1, by omega⟩
    have hl : lenN (n - 1) ≤ 8 := hl
    have hp := padN_le h
    rw [e] at hp ⊢
    refine fn_y Tryz.func92 Tryz.mixed ?_
    intro w0
    refine Y6 ?_
    refine Zot 4 rfl ((by omega)) ?_
    refine Y3 ?_
    refine Zot 7 rfl ((by omega)) ?_
    refine Y5 ?_
    refine Zhg (Zmb (a := n) (b := 1) rfl rfl (by omega) (by omega)) ?_
    refine Zhg (Zlv rfl) ?_
    refine Zor (c := len_x (n - 1) (by omega)) (k := ?_)
    rintro _ _ ⟨rfl, rfl⟩
    refine Y1 ?_
    refine Zhg (Zo2 (a := 1) (b := lenN (n - 1)) rfl rfl (by omega) (by omega)) ?_
    refine V2 ?_
    refine rx1 (Zg9 rfl (Zg7)) ?_
    exact ⟨_, ⟨rfl, rfl⟩, qI⟩
theorem size_pow_x (m : Nat) (h : m ≤ 16) : Con Tryz.prog 128 [nvv (2 ^ m)] [] (fun r M => r = .bool true ∧ M = []) := by
  have h1 := NetS.pow_pos2 m
  have h2 : 2 ^ m ≤ 2 ^ 16 := Nat.pow_le_pow_right (by omega) h
  have e : (2 ^ m) &&& (2 ^ m - 1) = 0 := by rw [Nat.and_two_pow_sub_one_eq_mod, Nat.mod_self]
  refine fn_y Tryz.func128 Tryz.mixed ?_
  intro w0
  refine Y6 ?_
  refine Zos 4 rfl ((by omega)) ?_
  refine Y3 ?_
  refine Zos 7 rfl ((by omega)) ?_
  refine Y4 ?_
  first|refine Y0 ?_|(refine Zhh rfl ?_; (refine Zhg (Zmb (a := 2 ^ m) (b := 1) rfl rfl (by omega) (by omega)) ?_))
  first|refine Y0 ?_|(refine Zhh rfl ?_; (refine Zhg (Zo0 (a := 2 ^ m) (b := 2 ^ m - 1) rfl rfl (by omega) (by omega)) ?_))
  first|refine Y0 ?_|(refine Zhh rfl ?_; (refine Zhg (Zmj (a := 2 ^ m &&& (2 ^ m - 1)) (b := 0) rfl rfl) ?_))
  refine Zos 14 rfl (e) ?_
  refine V3 ?_
  refine rx1 (Zha rfl (Zg7)) ?_
  exact ⟨_, ⟨rfl, rfl⟩, qI⟩
theorem size_0_x : Con Tryz.prog 128 [nvv 0] [] (fun r M => r = .bool false ∧ M = []) := by
  refine fn_y Tryz.func128 Tryz.mixed ?_
  intro w0
  refine Y6 ?_
  refine Zot 4 rfl ((by omega)) ?_
  refine V13 ?_
  refine rx1 (Zha rfl (Zg7)) ?_
  exact ⟨_, ⟨rfl, rfl⟩, qI⟩
end Go.Sl
namespace Go.Sl
open Go Go.Proofs
attribute [local irreducible] pt old pur ex all den denOps denS xOps xC cX CX xthen xblk xcut xloop xng retX resX Calls PV Rd Con
open NetS (gates gTo gPre gRow gAt come)
attribute [local irreducible] NetS.gates NetS.gTo NetS.gPre NetS.gRow NetS.come
def encG (g : Nat × Nat) : List Value := [.agg #[nvv g.1, nvv g.2]]
theorem come_hit {m p r i : Nat} (hp : p < m) (hr : r ≤ p) (hi : i < 2 ^ m) (h : ¬ i / 2 ^ (p - r) % 2 = 1) : ∃ hk : (come (2 ^ m) p r i).length < (gates m).length, (gates m)[(come (2 ^ m) p r i).length] = (if i / 2 ^ (p + 1) % 2 = 1 then (i + 2 ^ (p - r), i) else (i, i + 2 ^ (p - r))) ∧ (come (2 ^ m) p r (i + 1)).length = (come (2 ^ m) p r i).length + 1 := by
  have h1 := NetS.come_pre hp hr (i := i + 1) (by omega)
  rw [NetS.come_succ] at h1 ⊢
  have e : gAt (2 ^ (p + 1)) (2 ^ (p - r)) i = [if i / 2 ^ (p + 1) % 2 = 1 then (i + 2 ^ (p - r), i) else (i, i + 2 ^ (p - r))] := by unfold NetS.gAt; rw [if_neg h]
  rw [e] at h1 ⊢
  obtain ⟨hk, hx⟩ := NetS.pre_at h1
  exact ⟨hk, hx, by simp⟩
theorem come_miss {m p r i : Nat} (h : i / 2 ^ (p - r) % 2 = 1) : come (2 ^ m) p r (i + 1) = come (2 ^ m) p r i := by
  rw [NetS.come_succ]
  have e : gAt (2 ^ (p + 1)) (2 ^ (p - r)) i = [] := by unfold NetS.gAt; rw [if_pos h]
  rw [e, List.append_nil]
theorem bitonic0_g {b : Nat} : Gives Tryz.prog 127 [.pointer (some ⟨b, 0, none⟩)] [cl b #[nvv 0] 3] [] := by
  intro l J E hy
  refine fn_y Tryz.func127 Tryz.mixed ?_
  intro w0
  refine Zno Tryz.mixed ?_
  refine Y2 ?_
  refine Zor (c := size_0_x) (k := ?_)
  rintro _ _ ⟨rfl, rfl⟩
  refine Y1 ?_
  refine Zhg (Zb0 rfl) ?_
  refine Zhm 9 rfl (rfl) ?_
  refine V2 ?_
  first|refine rx0 ?_|refine rx0n ?_
  exact ⟨_, .inl rfl, qI⟩
theorem bitonic_g {b m : Nat} (hm : m ≤ 16) : Gives Tryz.prog 127 [.pointer (some ⟨b, 0, none⟩)] [cl b #[nvv (2 ^ m)] 3] ((gates m).map encG) := by
  intro l J E hy
  have hN : 2 ^ m ≤ 2 ^ 16 := Nat.pow_le_pow_right (by omega) hm
  have hlen : ((gates m).map encG).length = (gates m).length := by simp
  have hy2 : ∀ k (hk : k < (gates m).length), Yield Tryz.prog l (encG (gates m)[k]) (J k) (J (k + 1)) E := fun k hk => by
    have := hy k (by rw [hlen]; exact hk)
    simpa using this
  rw [hlen]
  refine fn_y Tryz.func127 Tryz.mixed ?_
  intro w0
  refine Zno Tryz.mixed ?_
  refine Y2 ?_
  refine Zor (c := size_pow_x m hm) (k := ?_)
  rintro _ _ ⟨rfl, rfl⟩
  refine Y1 ?_
  refine Zhg (Zb0 rfl) ?_
  refine Zhn 9 rfl (rfl) ?_
  refine V5 ?_
  refine Zgo [(3, 6), (10, 48)] (by kernel_rfl) (fun p : Nat => p ≤ m) (fun p => J (gTo (2 ^ m) p).length :: [cl b #[nvv (2 ^ m)] 3]) (fun p => [(3, nvv (2 ^ (p + 1)))]) (fun p => m + 1 - p) 0 (Nat.zero_le _) (by with_unfolding_all exact qI) ⟨rfl, trivial⟩ ?_
  intro p u0 hp
  have hp1 : 2 ^ (p + 1) ≤ 2 ^ 17 := Nat.pow_le_pow_right (by omega) (by omega)
  by_cases hpm : p < m
  · have hle : 2 ^ (p + 1) ≤ 2 ^ m := Nat.pow_le_pow_right (by omega) hpm
    have hhalf : 2 ^ (p + 1) / 2 ^ 1 = 2 ^ (p - 0) := by rw [Nat.pow_div (by omega) (by omega)]; congr 1
    refine Y3 ?_
    refine Zhg (Zmg (a := 2 ^ (p + 1)) (b := 2 ^ m) rfl rfl) ?_
    refine Zos 12 rfl (hle) ?_
    refine Y4 ?_
    refine Zhg (Zo3 (a := 2 ^ (p + 1)) (b := 1) rfl rfl (by omega)) ?_
    refine V2 ?_
    rw [hhalf]
    refine Zgo [(4, 6), (17, 48)] (by kernel_rfl) (fun r : Nat => r ≤ p + 1) (fun r => J (gTo (2 ^ m) p ++ gPre (2 ^ m) (2 ^ (p + 1)) p r).length :: [cl b #[nvv (2 ^ m)] 3]) (fun r => [(4, nvv (if r ≤ p then 2 ^ (p - r) else 0))]) (fun r => p + 2 - r) 0 (Nat.zero_le _) (by with_unfolding_all (rw [show gTo (2 ^ m) p ++ gPre (2 ^ m) (2 ^ (p + 1)) p 0 = gTo (2 ^ m) p from List.append_nil _]; exact qI)) ⟨by rw [if_pos (Nat.zero_le _)]; rfl, trivial⟩ ?_
    intro r u1 hr
    by_cases hrp : r ≤ p
    · have hj1 := NetS.pow_pos2 (p - r)
      have hj2 : 2 ^ (p - r) ≤ 2 ^ 16 := Nat.pow_le_pow_right (by omega) (by omega)
      rw [if_pos hrp]
      refine Y2 ?_
      refine Zhg (Zmh (a := 2 ^ (p - r)) (b := 0) rfl rfl) ?_
      refine Zos 18 rfl (hj1) ?_
      refine V6 ?_
      refine Zgo [(5, 6), (22, 48)] (by kernel_rfl) (fun i : Nat => i ≤ 2 ^ m) (fun i => J (come (2 ^ m) p r i).length :: [cl b #[nvv (2 ^ m)] 3]) (fun i => [(22, nvv i)]) (fun i => 2 ^ m - i) 0 (Nat.zero_le _) (by rw [NetS.come_0]; exact qI) ⟨rfl, trivial⟩ ?_
      intro i u2 hi
      refine V3 ?_
      refine Zgg rfl (fun hB => ?_) (fun hB => ?_)
      · refine V4 ?_
        by_cases hb : i / 2 ^ (p - r) % 2 = 1
        · have e1 : i &&& 2 ^ (p - r) ≠ 0 := fun hh => (NetS.and_pow i (p - r)).1 hh hb
          refine Y3 ?_
          refine Zhg (Zo0 (a := i) (b := 2 ^ (p - r)) rfl rfl (by omega) (by omega)) ?_
          refine Zhg (Zmk (a := i &&& 2 ^ (p - r)) (b := 0) rfl rfl) ?_
          refine Zos 28 rfl (e1) ?_
          refine V6 ?_
          rw [← come_miss (m := m) hb]
          exact Zgl (i + 1) qO (by omega) qI ⟨rfl, trivial⟩
        · have e1 := (NetS.and_pow i (p - r)).2 hb
          have e2 := NetS.or_pow hb
          obtain ⟨hk, hx, hl⟩ := come_hit hpm hrp hB hb
          have hyk := hy2 _ hk
          rw [hx, ← hl] at hyk
          refine Y3 ?_
          refine Zhg (Zo0 (a := i) (b := 2 ^ (p - r)) rfl rfl (by omega) (by omega)) ?_
          refine Zhg (Zmk (a := i &&& 2 ^ (p - r)) (b := 0) rfl rfl) ?_
          refine Zot 28 rfl ((fun hh => hh e1)) ?_
          refine Y6 ?_
          refine Zhg (Zo1 (a := i) (b := 2 ^ (p - r)) rfl rfl (by omega) (by omega)) ?_
          refine Zhg (Zdm (cs := #[nvv i, nvv (i ||| 2 ^ (p - r))]) rfl) ?_
          refine Zhz (cs := #[.int .i64 0, .int .i64 0]) rfl ?_; intro b6
          first|refine Zhy rfl rfl qR qZ (by first|rfl|assumption|(simp [oneC]; done)) qZ ?_|refine Zhx rfl rfl qR qZ (by first|rfl|assumption|(simp [oneC]; done)) qZ rfl ?_
          refine V1 ?_
          rw [e2]
          by_cases hd : i / 2 ^ (p + 1) % 2 = 1
          · have e3 : i &&& 2 ^ (p + 1) ≠ 0 := fun hh => (NetS.and_pow i (p + 1)).1 hh hd
            rw [if_pos hd] at hyk
            refine Y3 ?_
            refine Zhg (Zo0 (a := i) (b := 2 ^ (p + 1)) rfl rfl (by omega) (by omega)) ?_
            refine Zhg (Zmk (a := i &&& 2 ^ (p + 1)) (b := 0) rfl rfl) ?_
            refine Zos 37 rfl (e3) ?_
            refine Y15 ?_
            refine Zo4 rfl hyk rfl qH ?_; intro tb
            refine Zhg (Zb0 rfl) ?_
            refine V1 ?_
            refine Zgh rfl (fun ht => ?_) (fun ht => ?_)
            · obtain rfl : tb = false := by simpa using ht
              refine Ct.o ?_
              first|refine rx0 ?_|refine rx0n ?_
              exact ⟨_, .inr rfl, qI⟩
            · obtain rfl : tb = true := by simpa using ht
              refine V4 ?_
              exact Zgl (i + 1) qO (by omega) qI ⟨rfl, trivial⟩
          · have e3 := (NetS.and_pow i (p + 1)).2 hd
            rw [if_neg hd] at hyk
            refine Y3 ?_
            refine Zhg (Zo0 (a := i) (b := 2 ^ (p + 1)) rfl rfl (by omega) (by omega)) ?_
            refine Zhg (Zmk (a := i &&& 2 ^ (p + 1)) (b := 0) rfl rfl) ?_
            refine Zot 37 rfl ((fun hh => hh e3)) ?_
            refine Y5 ?_
            refine Zo4 rfl hyk rfl qH ?_; intro tb
            refine Zhg (Zb0 rfl) ?_
            refine V1 ?_
            refine Zgh rfl (fun ht => ?_) (fun ht => ?_)
            · obtain rfl : tb = false := by simpa using ht
              refine Ct.o ?_
              first|refine rx0 ?_|refine rx0n ?_
              exact ⟨_, .inr rfl, qI⟩
            · obtain rfl : tb = true := by simpa using ht
              refine V4 ?_
              exact Zgl (i + 1) qO (by omega) qI ⟨rfl, trivial⟩
      · have hie : i = 2 ^ m := by omega
        subst hie
        rw [NetS.come_row]
        have hnext : (2 ^ (p - r)) / 2 ^ 1 = if r + 1 ≤ p then 2 ^ (p - (r + 1)) else 0 := by
          by_cases h : r + 1 ≤ p
          · rw [if_pos h, Nat.pow_div (by omega) (by omega)]; congr 1
          · rw [if_neg h, show p - r = 0 by omega]
        refine Y2 ?_
        refine Zhg (Zo3 (a := 2 ^ (p - r)) (b := 1) rfl rfl (by omega)) ?_
        refine V2 ?_
        rw [hnext]
        exact Zgl (r + 1) qO (by omega) qI ⟨rfl, trivial⟩
    · obtain rfl : r = p + 1 := by omega
      rw [if_neg hrp, NetS.come_stage]
      refine Y2 ?_
      refine Zhg (Zmh (a := 0) (b := 0) rfl rfl) ?_
      refine Zot 18 rfl ((by omega)) ?_
      refine Y4 ?_
      refine Zhg (Zo2 (a := 2 ^ (p + 1)) (b := 1) rfl rfl (by omega) (by omega)) ?_
      refine V2 ?_
      rw [← Nat.pow_succ]
      exact Zgl (p + 1) qO (by omega) qI ⟨rfl, trivial⟩
  · obtain rfl : p = m := by omega
    have hgt : ¬ 2 ^ (p + 1) ≤ 2 ^ p := by
      have := NetS.pow_pos2 p
      rw [Nat.pow_succ]; omega
    refine Y3 ?_
    refine Zhg (Zmg (a := 2 ^ (p + 1)) (b := 2 ^ p) rfl rfl) ?_
    refine Zot 12 rfl (hgt) ?_
    refine V2 ?_
    first|refine rx0 ?_|refine rx0n ?_
    exact ⟨_, .inl rfl, by with_unfolding_all exact qI⟩
theorem bitonic_x (n : Nat) : Con Tryz.prog 93 [nvv n] [] (fun r M => ∃ b, r = .func (.func 127) #[] #[.pointer (some ⟨b, 0, none⟩)] ∧ M = [cl b #[nvv n] 3]) := by
  refine fn_y Tryz.func93 Tryz.mixed ?_
  intro w0
  refine Y1 ?_
  refine Zh1 rfl ?_; intro b1
  refine V6 ?_
  refine rx1 (Zg8 rfl (Zg7)) ?_
  exact ⟨_, ⟨b1, rfl, rfl⟩, qI⟩
end Go.Sl
namespace Go.Sl
open Go Go.Proofs
attribute [local irreducible] pt old pur ex all den denOps denS xOps xC cX CX xthen xblk xcut xloop xng retX resX Calls PV Rd Con
attribute [local irreducible] hostA pgA PagerS.loadP PagerS.saveP
open SlotS (SL Acc Fit)
open PagerS (PS Over)
section
variable {q pp ph : Nat} {s : SL} {p : PS} {h : HostS.HS} {F : FuncId} {fi ca : Array Value} {X : List Asrt} {φ : List Byte → List Byte → List Byte × List Byte} {Y : List Byte → List Byte → Nat → Nat → List Asrt → Prop}
theorem pair_diff (f : Fit s p) (hk : PagerS.Ok p) (hov : Over p h) (hops : h.ops + 6 < 3518437208880) (hl : s.log.length ≤ 4000000000000) {i j : Nat} (hi : i < s.n) (hj : j < s.n) (hc : FCon F fi ca s.size X φ Y) (hpg : ¬ SlotS.pg s j = SlotS.pg s i) (he : (PagerS.loadP p h (SlotS.pg s i : Nat)).1.2 = 0) (he2 : (PagerS.loadP (PagerS.loadP p h (SlotS.pg s i : Nat)).2.1 (PagerS.loadP p h (SlotS.pg s i : Nat)).2.2 (SlotS.pg s j : Nat)).1.2 = 0) :
    Con Tryz.prog 32 [hp q, nvv i, nvv j, .func (.func F) fi ca] (slA q pp s :: pgA pp ph p :: hostA ph h :: X) (fun r M => ∃ A B E, A = SlotS.part (PagerS.loadP p h (SlotS.pg s i : Nat)).1.1 (SlotS.fr s i) s.size ∧ B = SlotS.part (PagerS.loadP (PagerS.loadP p h (SlotS.pg s i : Nat)).2.1 (PagerS.loadP p h (SlotS.pg s i : Nat)).2.2 (SlotS.pg s j : Nat)).1.1 (SlotS.fr s j) s.size ∧ E = SlotS.pairE s (PagerS.loadP (PagerS.loadP p h (SlotS.pg s i : Nat)).2.1 (PagerS.loadP p h (SlotS.pg s i : Nat)).2.2 (SlotS.pg s j : Nat)).2.1 (PagerS.loadP (PagerS.loadP p h (SlotS.pg s i : Nat)).2.1 (PagerS.loadP p h (SlotS.pg s i : Nat)).2.2 (SlotS.pg s j : Nat)).2.2 i j (PagerS.loadP p h (SlotS.pg s i : Nat)).1.1 (PagerS.loadP (PagerS.loadP p h (SlotS.pg s i : Nat)).2.1 (PagerS.loadP p h (SlotS.pg s i : Nat)).2.2 (SlotS.pg s j : Nat)).1.1 (φ A B).1 (φ A B).2 ∧ r = nvv E.1 ∧ ∃ a b Z, Y A B a b Z ∧ M = slA q pp (SlotS.touch s 2 i j) :: pgA pp ph E.2.1 :: hostA ph E.2.2 :: blk a (φ A B).1 :: blk b (φ A B).2 :: Z) := by
  have hij : i ≠ j := fun hh => hpg (by rw [hh])
  refine Con.slA fun la lc => ?_
  simp only [List.cons_append, List.nil_append]
  have ht1 := hk.t1
  have hp1 := hk.p1
  have hpage := f.page hi
  have hfi := f.from i
  have hfj := f.from j
  have hsz1 := f.size
  have hiz := f.small hi hp1 ht1
  have hjz := f.small hj hp1 ht1
  have hll := fun hk1 => SlotS.load_text (p := p) (h := h) (n := ((SlotS.pg s i : Nat) : Int)) he hk1
  have hld := load_x (p := pp) (ph := ph) hov (by omega) ((SlotS.pg s i : Nat) : Int)
  have hov1 := (PagerS.near_load p h ((SlotS.pg s i : Nat) : Int)).over hov
  have hop1 := (PagerS.near_load p h ((SlotS.pg s i : Nat) : Int)).ops
  have htx1 := (PagerS.near_load p h ((SlotS.pg s i : Nat) : Int)).text
  have hpageJ := f.page hj
  have hE : ∀ (p1 : PS) (h1 : HostS.HS) (tI tJ x y : List Byte), SlotS.pairE s p1 h1 i j tI tJ x y = if (PagerS.saveP p1 h1 ((SlotS.pg s i : Nat) : Int) (SlotS.lay tI (SlotS.fr s i) x)).1 = 0 then PagerS.saveP (PagerS.saveP p1 h1 ((SlotS.pg s i : Nat) : Int) (SlotS.lay tI (SlotS.fr s i) x)).2.1 (PagerS.saveP p1 h1 ((SlotS.pg s i : Nat) : Int) (SlotS.lay tI (SlotS.fr s i) x)).2.2 ((SlotS.pg s j : Nat) : Int) (SlotS.lay tJ (SlotS.fr s j) y) else PagerS.saveP p1 h1 ((SlotS.pg s i : Nat) : Int) (SlotS.lay tI (SlotS.fr s i) x) := fun p1 h1 tI tJ x y => by unfold SlotS.pairE; rw [if_neg hpg]
  simp only [hE]
  have htc := fun a c => stouch_x (q := q) (pp := pp) (s := s) (a := a) (c := c) 2 i j hl
  have hpl1 := fun a c => splace_x (q := q) (pp := pp) (s := SlotS.touch s 2 i j) (a := a) (c := c) i (f.touch 2 i j).per1 hiz (by show SlotS.fr s i ≤ 4096; omega) (by show SlotS.pg s i ≤ 65536; omega)
  have hpl2 := fun a c => splace_x (q := q) (pp := pp) (s := SlotS.touch s 2 i j) (a := a) (c := c) j (f.touch 2 i j).per1 hjz (by show SlotS.fr s j ≤ 4096; omega) (by show SlotS.pg s j ≤ 65536; omega)
  have hpd := fun a c g n cp bf bs fn h1 h2 h3 => splaced_x (q := q) (pp := pp) (s := SlotS.touch s 2 i j) (a := a) (c := c) (g := g) (n := n) (cp := cp) (bf := bf) (bs := bs) (f := fn) f.size h1 h2 h3
  have e1 : SlotS.pg (SlotS.touch s 2 i j) i = SlotS.pg s i := rfl
  have e2 : SlotS.fr (SlotS.touch s 2 i j) i = SlotS.fr s i := rfl
  have e1' : SlotS.pg (SlotS.touch s 2 i j) j = SlotS.pg s j := rfl
  have e2' : SlotS.fr (SlotS.touch s 2 i j) j = SlotS.fr s j := rfl
  have e3 : (SlotS.touch s 2 i j).size = s.size := rfl
  rw [e1, e2] at hpl1
  rw [e1', e2'] at hpl2
  rw [e3] at hpd
  have hh1 : SlotS.has s (i : Int) := SlotS.has_nat hi
  have hh2 : SlotS.has s (j : Int) := SlotS.has_nat hj
  have hijz : ¬ ((i : Int) = (j : Int)) := by omega
  clear e1 e1' e2 e2' hiz hjz
  generalize hs2 : SlotS.touch s 2 i j = s2 at *
  generalize (PagerS.loadP p h (SlotS.pg s i : Nat)).2.1 = p1 at *
  generalize (PagerS.loadP p h (SlotS.pg s i : Nat)).2.2 = h1 at *
  generalize (PagerS.loadP p h (SlotS.pg s i : Nat)).1.2 = er at *
  generalize (PagerS.loadP p h (SlotS.pg s i : Nat)).1.1 = B at *
  have hll2 := fun he hk2 => SlotS.load_text (p := p1) (h := h1) (n := ((SlotS.pg s j : Nat) : Int)) he hk2
  have hld2 := load_x (p := pp) (ph := ph) hov1 (by omega) ((SlotS.pg s j : Nat) : Int)
  have hov2 := (PagerS.near_load p1 h1 ((SlotS.pg s j : Nat) : Int)).over hov1
  have hop2 := (PagerS.near_load p1 h1 ((SlotS.pg s j : Nat) : Int)).ops
  generalize (PagerS.loadP p1 h1 (SlotS.pg s j : Nat)).2.1 = p2 at *
  generalize (PagerS.loadP p1 h1 (SlotS.pg s j : Nat)).2.2 = h2 at *
  generalize (PagerS.loadP p1 h1 (SlotS.pg s j : Nat)).1.2 = er2 at *
  generalize (PagerS.loadP p1 h1 (SlotS.pg s j : Nat)).1.1 = B2 at *
  generalize SlotS.pg s i = pn at *
  generalize SlotS.pg s j = pm at *
  generalize SlotS.fr s i = f1 at *
  generalize SlotS.fr s j = f2 at *
  subst he he2
  refine fn_y Tryz.func32 Tryz.mixed ?_
  intro w0
  refine Y6 ?_
  refine Zhn 20 rfl (rfl) ?_
  refine Y5 ?_
  refine Zor (c := shas_x (q := q) (pp := pp) (s := s) (a := la) (c := lc) i) (k := ?_)
  rintro _ _ ⟨rfl, rfl⟩
  refine Y1 ?_
  refine Zos 23 rfl (hh1) ?_
  refine Zhg (Zb0 rfl) ?_
  refine Zhn 24 rfl (rfl) ?_
  refine Y3 ?_
  first|refine Y0 ?_|(refine Zhh rfl ?_; (refine Zor (c := shas_x (q := q) (pp := pp) (s := s) (a := la) (c := lc) j) (k := ?_)); (rintro _ _ ⟨rfl, rfl⟩); (refine Zg2 qA ?_))
  refine Zos 28 rfl (hh2) ?_
  first|refine Y0 ?_|(refine Zhh rfl ?_; (refine Zhg (Zb0 rfl) ?_))
  refine Zhn 29 rfl (rfl) ?_
  refine Y4 ?_
  first|refine Y0 ?_|(refine Zhh rfl ?_; (refine Zhg (Zbr (a := (i : Int)) (b := (j : Int)) rfl rfl) ?_))
  refine Zot 34 rfl (hijz) ?_
  refine Y7 ?_
  refine Zor (c := htc la lc) (k := ?_)
  rintro _ _ ⟨la2, lc2, rfl⟩
  refine Y5 ?_
  refine Zor (c := hpl1 la2 lc2) (k := ?_)
  rintro _ _ ⟨bf, bs, rfl, rfl⟩
  refine Y10 ?_
  refine Zor (c := hpl2 la2 lc2) (k := ?_)
  rintro _ _ ⟨bg, bt, rfl, rfl⟩
  refine Y13 ?_
  refine Zor (c := hld) (k := ?_)
  rintro _ _ ⟨ta, tc, rfl, rfl⟩
  refine V7 ?_
  refine Zgt (fun F w H => pgs_ok (pp := pp) (ph := ph) (p := p1) qH H) ?_
  intro hk1
  have hB := hll hk1
  refine Y3 ?_
  refine Zot 62 rfl ((fun hh => hh rfl)) ?_
  refine Y9 ?_
  refine Zhg (Zmk (a := pm) (b := pn) rfl rfl) ?_
  refine Zos 67 rfl (hpg) ?_
  refine Y8 ?_
  refine Zor (c := hld2) (k := ?_)
  rintro _ _ ⟨ua, uc, rfl, rfl⟩
  refine V7 ?_
  refine Zgt (fun F w H => pgs_ok (pp := pp) (ph := ph) (p := p2) qH H) ?_
  intro hk2
  have hB2 := hll2 rfl hk2
  refine Y3 ?_
  refine Zot 78 rfl ((fun hh => hh rfl)) ?_
  refine V2 ?_
  refine Zij ([cl q (slc pp s2 la2 lc2) 137]) [4, 8, 9, 10] (.q 0 (.q 1 (.q 2 (.q 5 (.q 6 (.q 7 (.r 3 (.r 8 (.alt (.e 4 true (.r 10 (.e 9 true (.q 11 .nil)))) (.e 9 true (.e 4 true (.r 10 (.q 11 .nil))))))))))))) (by kernel_rfl) (by kernel_rfl) (Imp.arr qV) ?_
  refine W8 ?_
  refine Zis ?altA1 ?altB1
  case' altA1 =>
    refine Ziq rfl ?_
    refine Zm3 (f := u8b) (a := 0#8) rfl rfl rfl qS qS qS ?_; intro b84
    refine Zg3 ⟨fun _ => Imp.arr qV, ?_⟩
    refine W1 ?_
    refine Ziq rfl ?_
    refine Zm3 (f := u8b) (a := 0#8) rfl rfl rfl qS qS qS ?_; intro b89
    refine Zg3 ⟨fun _ => Imp.arr qV, ?_⟩
    refine W2 ?_
  case' altB1 =>
    refine Ziq rfl ?_
    refine Zm3 (f := u8b) (a := 0#8) rfl rfl rfl qS qS qS ?_; intro b89
    refine Zg3 ⟨fun _ => Imp.arr qV, ?_⟩
    refine Ziq rfl ?_
    refine Zm3 (f := u8b) (a := 0#8) rfl rfl rfl qS qS qS ?_; intro b84
    refine Zg3 ⟨fun _ => Imp.arr qV, ?_⟩
    refine W3 ?_
  all_goals (refine Ct.o ?_)
  all_goals
    rw [e3]
    refine x_own (E := 5) (n := B.length) (a := ta) (cp := tc) qH (by omega) ?_
    intro g rest hg hc1 hc2 hr
    subst hg
    refine x_own (E := 5) (n := B2.length) (a := ua) (cp := uc) qH (by omega) ?_
    intro g2 rest2 hg2 hd1 hd2 hr2
    subst hg2
    have hA : (SlotS.part B f1 s.size).length = s.size := SlotS.part_len (by omega)
    have hA2 : (SlotS.part B2 f2 s.size).length = s.size := SlotS.part_len (by omega)
    obtain ⟨hx, hy⟩ := hc.len _ _ hA hA2
    have hcf := hc.con b84 b89 _ _ hA hA2
    refine Y4 ?_
    refine Zor (c := hpd la2 lc2 g B.length tc bf bs f1 (by omega) hc1 (by omega)) (k := ?_)
    rintro _ _ ⟨rfl, rfl⟩
    refine Y1 ?_
    refine Zib rfl rfl ((rd_part qH (by omega))) qR qZ (by first|rfl|exact oneM_u8 _|exact oneL_u8 _|exact acc_one _|exact acc_ones _|assumption|(simp [oneC]; done)) (copy_all hA) ?_
    refine Y5 ?_
    refine Zor (c := hpd la2 lc2 g2 B2.length uc bg bt f2 (by omega) hd1 (by omega)) (k := ?_)
    rintro _ _ ⟨rfl, rfl⟩
    refine Y1 ?_
    refine Zib rfl rfl ((rd_part qH (by omega))) qR qZ (by first|rfl|exact oneM_u8 _|exact oneL_u8 _|exact acc_one _|exact acc_ones _|assumption|(simp [oneC]; done)) (copy_all hA2) ?_
    refine Y5 ?_
    refine Zh8 rfl hc.callable hcf rfl qT ?_; rintro _ _ ⟨Z, hZ, rfl⟩; refine Zg2 qA ?_
    refine V1 ?_
    generalize hφ1 : (φ (SlotS.part B f1 s.size) (SlotS.part B2 f2 s.size)).1 = x1 at *
    generalize hφ2 : (φ (SlotS.part B f1 s.size) (SlotS.part B2 f2 s.size)).2 = x2 at *
    have hl1 : (SlotS.lay B f1 x1).length = B.length := SlotS.lay_len (by omega)
    have hl2 : (SlotS.lay B2 f2 x2).length = B2.length := SlotS.lay_len (by omega)
    have hsv := save_x (p := pp) (ph := ph) (s := p2) (h := h2) (L := [cl g ((SlotS.lay B f1 x1).map u8b ++ rest).toArray 5]) hov2 (by omega) (pn : Int) (lay_bs (n := B.length) (c := tc) .here hl1 hc1 hc2)
    have hov3 := (PagerS.near_save p2 h2 (pn : Int) (SlotS.lay B f1 x1)).over hov2
    have hop3 := (PagerS.near_save p2 h2 (pn : Int) (SlotS.lay B f1 x1)).ops
    refine Y3 ?_
    refine Zor (c := hpd la2 lc2 g B.length tc bf bs f1 (by omega) hc1 (by omega)) (k := ?_)
    rintro _ _ ⟨rfl, rfl⟩
    refine Y2 ?_
    refine Zib rfl rfl ((Bs.rd (bs_full (l := x1) (n := s.size) qH hx (by omega)))) qR qZ (by first|rfl|exact oneM_u8 _|exact oneL_u8 _|exact acc_one _|exact acc_ones _|assumption|(simp [oneC]; done)) (copy_lay (B := B) (f := f1) (rest := rest) hx (by omega)) ?_
    refine Y4 ?_
    refine Zor (c := hpd la2 lc2 g2 B2.length uc bg bt f2 (by omega) hd1 (by omega)) (k := ?_)
    rintro _ _ ⟨rfl, rfl⟩
    refine Y2 ?_
    refine Zib rfl rfl ((Bs.rd (bs_full (l := x2) (n := s.size) qH hy (by omega)))) qR qZ (by first|rfl|exact oneM_u8 _|exact oneL_u8 _|exact acc_one _|exact acc_ones _|assumption|(simp [oneC]; done)) (copy_lay (B := B2) (f := f2) (rest := rest2) hy (by omega)) ?_
    refine Y8 ?_
    refine Zor (c := hsv) (k := ?_)
    rintro _ _ ⟨rfl, rfl⟩
    refine V3 ?_
    have hfin : ∀ (p : PS) (h : HostS.HS), Imp (slL q pp s2 la2 lc2 ++ (pgA pp ph p :: hostA ph h :: blk b84 x1 :: blk b89 x2 :: Z)) (slA q pp s2 :: pgA pp ph p :: hostA ph h :: blk b84 x1 :: blk b89 x2 :: Z) := fun p h => slA_mk
    simp only [List.cons_append, List.nil_append] at hfin
    generalize hq1 : (PagerS.saveP p2 h2 (pn : Int) (SlotS.lay B f1 x1)).2.1 = p3 at *
    generalize hq2 : (PagerS.saveP p2 h2 (pn : Int) (SlotS.lay B f1 x1)).2.2 = h3 at *
    generalize hq3 : (PagerS.saveP p2 h2 (pn : Int) (SlotS.lay B f1 x1)).1 = e9 at *
    have hq : PagerS.saveP p2 h2 (pn : Int) (SlotS.lay B f1 x1) = (e9, p3, h3) := by rw [← hq1, ← hq2, ← hq3]
    by_cases hz : e9 = 0
    · have hsv2 := save_x (p := pp) (ph := ph) (s := p3) (h := h3) (L := [cl g2 ((SlotS.lay B2 f2 x2).map u8b ++ rest2).toArray 5]) hov3 (by omega) (pm : Int) (lay_bs (n := B2.length) (c := uc) .here hl2 hd1 hd2)
      refine Y3 ?_
      refine Zot 122 rfl ((fun hh => hh hz)) ?_
      refine Y3 ?_
      first|refine Y0 ?_|(refine Zhh rfl ?_; (refine Zhg (Zmj (a := pm) (b := pn) rfl rfl) ?_))
      refine Zot 126 rfl (hpg) ?_
      refine Y10 ?_
      refine Zor (c := hsv2) (k := ?_)
      rintro _ _ ⟨rfl, rfl⟩
      refine V3 ?_
      refine rx1 (Zg9 rfl (Zg7)) ?_
      refine ⟨_, ⟨_, _, _, rfl, rfl, rfl, by rw [hφ1, hφ2, hq]; dsimp only; rw [if_pos hz], b84, b89, Z, hZ, rfl⟩, ?_⟩
      rw [hφ1, hφ2, hq]
      dsimp only
      rw [if_pos hz]
      exact (Imp.arr qV).trans (hfin _ _)
    · refine Y3 ?_
      refine Zos 122 rfl (hz) ?_
      refine V11 ?_
      refine rx1 (Zg9 rfl (Zg7)) ?_
      refine ⟨_, ⟨_, _, _, rfl, rfl, rfl, by rw [hφ1, hφ2, hq]; dsimp only; rw [if_neg hz], b84, b89, Z, hZ, rfl⟩, ?_⟩
      rw [hφ1, hφ2, hq]
      dsimp only
      rw [if_neg hz]
      exact (Imp.arr qV).trans (hfin _ _)
end
end Go.Sl
namespace Go.Sl
open Go Go.Proofs
attribute [local irreducible] pt old pur ex all den denOps denS xOps xC cX CX xthen xblk xcut xloop xng retX resX Calls PV Rd Con
attribute [local irreducible] hostA pgA PagerS.loadP PagerS.saveP
open SlotS (SL Acc Fit)
open PagerS (PS Over)
section
variable {q pp ph : Nat} {s : SL} {p : PS} {h : HostS.HS} {F : FuncId} {fi ca : Array Value} {X : List Asrt} {φ : List Byte → List Byte → List Byte × List Byte} {Y : List Byte → List Byte → Nat → Nat → List Asrt → Prop}
theorem pair_ok (f : Fit s p) (hk : PagerS.Ok p) (hov : Over p h) (hops : h.ops + 6 < 3518437208880) (hl : s.log.length ≤ 4000000000000) {i j : Nat} (hi : i < s.n) (hj : j < s.n) (hij : i ≠ j) (hc : FCon F fi ca s.size X φ Y) (he : (SlotS.pairL s p h i j).1.1 = 0) :
    Con Tryz.prog 32 [hp q, nvv i, nvv j, .func (.func F) fi ca] (slA q pp s :: pgA pp ph p :: hostA ph h :: X) (fun r M => ∃ A B E, A = SlotS.part (SlotS.pairL s p h i j).1.2.1 (SlotS.fr s i) s.size ∧ B = SlotS.part (SlotS.pairL s p h i j).1.2.2 (SlotS.fr s j) s.size ∧ E = SlotS.pairE s (SlotS.pairL s p h i j).2.1 (SlotS.pairL s p h i j).2.2 i j (SlotS.pairL s p h i j).1.2.1 (SlotS.pairL s p h i j).1.2.2 (φ A B).1 (φ A B).2 ∧ r = nvv E.1 ∧ ∃ a b Z, Y A B a b Z ∧ M = slA q pp (SlotS.touch s 2 i j) :: pgA pp ph E.2.1 :: hostA ph E.2.2 :: blk a (φ A B).1 :: blk b (φ A B).2 :: Z) := by
  have h1 : (PagerS.loadP p h (SlotS.pg s i : Nat)).1.2 = 0 := by
    unfold SlotS.pairL at he
    dsimp only at he
    split at he
    · assumption
    · rename_i hn; exact absurd he hn
  by_cases hpg : SlotS.pg s j = SlotS.pg s i
  · have e : SlotS.pairL s p h i j = ((0, (PagerS.loadP p h (SlotS.pg s i : Nat)).1.1, (PagerS.loadP p h (SlotS.pg s i : Nat)).1.1), (PagerS.loadP p h (SlotS.pg s i : Nat)).2) := by
      unfold SlotS.pairL
      dsimp only
      rw [if_pos h1, if_pos hpg]
    have hE : ∀ (p1 : PS) (h1 : HostS.HS) (tI tJ x y : List Byte), SlotS.pairE s p1 h1 i j tI tJ x y = PagerS.saveP p1 h1 ((SlotS.pg s i : Nat) : Int) (SlotS.lay (SlotS.lay tI (SlotS.fr s i) x) (SlotS.fr s j) y) := fun p1 h1 tI tJ x y => by unfold SlotS.pairE; rw [if_pos hpg]
    refine (pair_same f hk hov hops hl hi hj hij hc hpg h1).mono ?_
    rintro r M ⟨A, B, E, hA, hB, hEE, hr, a, b, Z, hY, hM⟩
    rw [e]
    refine ⟨M, Imp.refl _, A, B, E, hA, hB, ?_, hr, a, b, Z, hY, hM⟩
    rw [hE]; exact hEE
  · have h2 : (PagerS.loadP (PagerS.loadP p h (SlotS.pg s i : Nat)).2.1 (PagerS.loadP p h (SlotS.pg s i : Nat)).2.2 (SlotS.pg s j : Nat)).1.2 = 0 := by
      unfold SlotS.pairL at he
      dsimp only at he
      rw [if_pos h1, if_neg hpg] at he
      split at he
      · assumption
      · rename_i hn; exact absurd he hn
    have e : SlotS.pairL s p h i j = ((0, (PagerS.loadP p h (SlotS.pg s i : Nat)).1.1, (PagerS.loadP (PagerS.loadP p h (SlotS.pg s i : Nat)).2.1 (PagerS.loadP p h (SlotS.pg s i : Nat)).2.2 (SlotS.pg s j : Nat)).1.1), (PagerS.loadP (PagerS.loadP p h (SlotS.pg s i : Nat)).2.1 (PagerS.loadP p h (SlotS.pg s i : Nat)).2.2 (SlotS.pg s j : Nat)).2) := by
      unfold SlotS.pairL
      dsimp only
      rw [if_pos h1, if_neg hpg, if_pos h2]
    refine (pair_diff f hk hov hops hl hi hj hc hpg h1 h2).mono ?_
    rintro r M ⟨A, B, E, hA, hB, hEE, hr, a, b, Z, hY, hM⟩
    rw [e]
    exact ⟨M, Imp.refl _, A, B, E, hA, hB, hEE, hr, a, b, Z, hY, hM⟩
end
end Go.Sl
