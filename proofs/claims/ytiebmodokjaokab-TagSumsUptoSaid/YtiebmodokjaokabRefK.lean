/- the document's answer for the code, in digits: fold. -/
import Derived.Test.YtiebmodokjaokabRefJ
set_option maxHeartbeats 4000000
set_option maxRecDepth 10000
set_option linter.unusedVariables false
set_option linter.unusedSimpArgs false
namespace Go.Sl
open Go Go.Proofs
attribute [local irreducible] cl pt own old pur ex all den denOps denS xOps xC cX CX xthen xblk xcut xloop retX resX Calls PV Rd Con
theorem rd_five {b : Nat} {M M' : List Asrt} (h : Has M (cl b #[.int .i64 5] 3) M') : Rd M 1 (.slice (some ⟨b, 0, none⟩) ([5] : List Nat).length 1) ([5] : List Nat).length (([5] : List Nat).map nv) :=
  Rd.cl (o := 0) h rfl (by first | rfl | omega | (rw [szL]; omega) | exact Nat.le_of_ble_eq_true rfl | (simp; done) | (simp; omega)) rfl
theorem rd_own {E : Nat} {v : Value} {n : Nat} {l : List Nat} {M M' : List Asrt} (h : Has M (own E 1 v n (l.map nv)) M') : Rd M 1 v n (l.map nv) := Rd.own h
theorem dig_five : Dig [5] := by intro x hx; simp at hx; omega
theorem valD_le {l : List Nat} {n : Nat} (h : Dig l) (hl : l.length ≤ n) : valD l < 256 ^ n := Nat.lt_of_lt_of_le (valD_lt l h) (Nat.pow_le_pow_right (by omega) hl)
theorem mul5_le {l : List Nat} (h : Dig l) (hl : l.length ≤ 46) : valD l * valD [5] < 256 ^ 47 := by
  have := valD_le h hl
  rw [show (256 : Nat) ^ 47 = 256 ^ 46 * 256 from Nat.pow_succ ..]
  simp only [valD]; omega
theorem add_le2 {a b : List Nat} (ha : Dig a) (hb : Dig b) (hl : a.length ≤ 61) (hl2 : b.length ≤ 61) : valD a + valD b < 256 ^ 62 := by
  have := valD_le ha hl; have := valD_le hb hl2
  rw [show (256 : Nat) ^ 62 = 256 ^ 61 * 256 from Nat.pow_succ ..]
  omega
theorem fold_fin (v m : Nat) (h : v < 1361129467683753853853498429727072845824) (hm : m = v + 5) :
    (m / 1361129467683753853853498429727072845824 = 0 → v % 1361129467683753853853498429727072845824 = v % 1361129467683753853853498429727072845819) ∧ (¬ m / 1361129467683753853853498429727072845824 = 0 → m % 1361129467683753853853498429727072845824 = v % 1361129467683753853853498429727072845819) := by
  subst hm; constructor <;> intro h2 <;> omega
theorem fold_x {L : List Asrt} {a : Option Addr} {c : Nat} {l : List Nat} (h : Rd L 1 (.slice a l.length c) l.length (l.map nv)) (hl : l.length ≤ 62) (hd0 : Dig l) :
    Con Try.prog 29 [.slice a l.length c] L (fun r M => ∃ a2 c2 d, Dig d ∧ valD d = valD l % 1361129467683753853853498429727072845819 ∧ d.length ≤ 17 ∧ r = .slice a2 d.length c2 ∧ M = own 3 1 r d.length (d.map nv) :: L) := by
  refine fn_x Try.func29 rfl rfl rfl Try.mixed (by kernel_rfl) ?_
  intro w0
  repeat (first|refine zA ?_|refine zB ?_|refine zC ?_|refine zD ?_|refine zE ?_|refine zF ?_|refine zG ?_|refine zH ?_|refine zI ?_|refine zJ ?_|refine zK ?_|refine zL ?_|refine zM rfl ?_|refine zN ?_|refine zO ?_|refine zP ?_|refine zQ ?_)
  refine x_reg ?_
  first | refine x_pv (pv_assign_slice rfl) ?_ | refine x_pv (pv_assign rfl) ?_
  refine x_nil ?_
  repeat (first|refine zA ?_|refine zB ?_|refine zC ?_|refine zD ?_|refine zE ?_|refine zF ?_|refine zG ?_|refine zH ?_|refine zI ?_|refine zJ ?_|refine zK ?_|refine zL ?_|refine zM rfl ?_|refine zN ?_|refine zO ?_|refine zP ?_|refine zQ ?_)
  refine x_reg ?_
  first | refine x_pv (pv_move_slice rfl) ?_ | refine x_pv (pv_move rfl) ?_
  refine x_call rfl (by kernel_rfl) (high_x h (by omega) hd0) rfl (by repeat (first | exact Take.nil | exact Take.all | (apply Take.cons; (next => (repeat constructor); done)) | apply Take.skip)) ?_
  rintro _ _ ⟨ah, ch, hh, hhd, hhv, hhl, rfl, rfl⟩
  refine xo_app (by repeat (first | exact App.nil | apply App.cons | (apply App.flip; first | exact App.nil | apply App.cons) | exact App.any)) ?_
  first | refine x_pv (pv_assign_slice rfl) ?_ | refine x_pv (pv_assign rfl) ?_
  refine x_nil ?_
  repeat (first|refine zA ?_|refine zB ?_|refine zC ?_|refine zD ?_|refine zE ?_|refine zF ?_|refine zG ?_|refine zH ?_|refine zI ?_|refine zJ ?_|refine zK ?_|refine zL ?_|refine zM rfl ?_|refine zN ?_|refine zO ?_|refine zP ?_|refine zQ ?_)
  refine x_loop [(0, 0), (3, 3), (7, 17)] (by kernel_rfl) (fun s : List Asrt × (Option Addr × Nat × List Nat) × (Option Addr × Nat × List Nat) => Imp s.1 L ∧ Rd s.1 1 (.slice s.2.1.1 s.2.1.2.2.length s.2.1.2.1) s.2.1.2.2.length (s.2.1.2.2.map nv) ∧ Dig s.2.1.2.2 ∧ s.2.1.2.2.length ≤ 62 ∧ valD s.2.1.2.2 % 1361129467683753853853498429727072845819 = valD l % 1361129467683753853853498429727072845819 ∧
      Rd s.1 1 (.slice s.2.2.1 s.2.2.2.2.length s.2.2.2.1) s.2.2.2.2.length (s.2.2.2.2.map nv) ∧ Dig s.2.2.2.2 ∧ valD s.2.2.2.2 = valD s.2.1.2.2 / 1361129467683753853853498429727072845824 ∧ s.2.2.2.2.length = s.2.1.2.2.length - 16)
    (fun s => s.1)
    (fun s => [(0, .slice s.2.1.1 s.2.1.2.2.length s.2.1.2.1), (3, .slice s.2.2.1 s.2.2.2.2.length s.2.2.2.1)]) (fun s => valD s.2.1.2.2) (own 3 1 (.slice ah hh.length ch) hh.length (hh.map nv) :: L, (a, c, l), (ah, ch, hh)) ⟨Imp.tail, h.imp Imp.tail, hd0, hl, rfl, rd_own .here, hhd, hhv, hhl⟩ (Imp.refl _) ⟨rfl, rfl, trivial⟩ ?_
  clear hhd hhv hhl
  rintro ⟨E, ⟨da, dc, d⟩, ⟨ah2, ch2, hi⟩⟩ u ⟨hE, hrd, hd, hdl, hdv, hrh, hhd, hhv, hhl⟩
  dsimp only at hE hrd hd hdl hdv hrh hhd hhv hhl ⊢
  repeat (first|refine zA ?_|refine zB ?_|refine zC ?_|refine zD ?_|refine zE ?_|refine zF ?_|refine zG ?_|refine zH ?_|refine zI ?_|refine zJ ?_|refine zK ?_|refine zL ?_|refine zM rfl ?_|refine zN ?_|refine zO ?_|refine zP ?_|refine zQ ?_)
  refine x_reg ?_
  first | refine x_pv (pv_move_slice rfl) ?_ | refine x_pv (pv_move rfl) ?_
  refine x_call rfl (by kernel_rfl) (noughtD_x (L := E) hrh (by omega)) rfl (by repeat (first | exact Take.nil | exact Take.all | (apply Take.cons; (next => (repeat constructor); done)) | apply Take.skip)) ?_
  rintro _ _ ⟨rfl, rfl⟩
  refine xo_app (by repeat (first | exact App.nil | apply App.cons | (apply App.flip; first | exact App.nil | apply App.cons) | exact App.any)) ?_
  first | refine x_pv (pv_not_p rfl) ?_ | refine x_pv (pv_not rfl) ?_
  refine x_nil ?_
  repeat (first|refine zA ?_|refine zB ?_|refine zC ?_|refine zD ?_|refine zE ?_|refine zF ?_|refine zG ?_|refine zH ?_|refine zI ?_|refine zJ ?_|refine zK ?_|refine zL ?_|refine zM rfl ?_|refine zN ?_|refine zO ?_|refine zP ?_|refine zQ ?_)
  refine x_cond_p (p := ¬ valD hi = 0) (by show Value.bool _ = _; simp) (fun hA => ?_) (fun hA => ?_)
  · have hlv := (lowD_val d hd).2.2
    repeat (first|refine zA ?_|refine zB ?_|refine zC ?_|refine zD ?_|refine zE ?_|refine zF ?_|refine zG ?_|refine zH ?_|refine zI ?_|refine zJ ?_|refine zK ?_|refine zL ?_|refine zM rfl ?_|refine zN ?_|refine zO ?_|refine zP ?_|refine zQ ?_)
    refine x_reg ?_
    first | refine x_pv (pv_move_slice rfl) ?_ | refine x_pv (pv_move rfl) ?_
    refine x_call rfl (by kernel_rfl) (low_x (L := E) hrd (by omega)) rfl (by repeat (first | exact Take.nil | exact Take.all | (apply Take.cons; (next => (repeat constructor); done)) | apply Take.skip)) ?_
    rintro _ _ ⟨al, ccl, lo, rfl, rfl, rfl⟩
    refine xo_app (by repeat (first | exact App.nil | apply App.cons | (apply App.flip; first | exact App.nil | apply App.cons) | exact App.any)) ?_
    first | refine x_pv (pv_move_slice rfl) ?_ | refine x_pv (pv_move rfl) ?_
    refine x_buildSlice (cs := #[.int .i64 _]) (by omega) (by omega) rfl ?_; intro b13
    refine x_call rfl (by kernel_rfl) (mul_x (L := cl b13 #[.int .i64 5] 3 :: E) (n := 47) (la := hi) (lb := [5]) (hrh.imp Imp.tail) (rd_five .here) hhd dig_five (by omega) (by simp) (by simp; omega) (by omega) (mul5_le hhd (by omega))) rfl (by repeat (first | exact Take.nil | exact Take.all | (apply Take.cons; (next => (repeat constructor); done)) | apply Take.skip)) ?_
    rintro _ _ ⟨am, cm, mm, hmd, hmv, hml, rfl, rfl⟩
    refine xo_app (by repeat (first | exact App.nil | apply App.cons | (apply App.flip; first | exact App.nil | apply App.cons) | exact App.any)) ?_
    refine x_call rfl (by kernel_rfl) (add_x (L := own 3 1 (.slice al (lowD d d.length).length ccl) (lowD d d.length).length ((lowD d d.length).map nv) :: own 3 1 (.slice am mm.length cm) mm.length (mm.map nv) :: E) (n := 62) (rd_own .here) (rd_own (.there .here)) (lowD_val d hd).2.1 hmd (by omega) (by omega) (by omega) (add_le2 (lowD_val d hd).2.1 hmd (by omega) (by omega))) rfl (by repeat (first | exact Take.nil | exact Take.all | (apply Take.cons; (next => (repeat constructor); done)) | apply Take.skip)) ?_
    rintro _ _ ⟨a5, c5, ss, hsd, hsv, hsl, rfl, rfl⟩
    refine xo_app (by repeat (first | exact App.nil | apply App.cons | (apply App.flip; first | exact App.nil | apply App.cons) | exact App.any)) ?_
    first | refine x_pv (pv_assign_slice rfl) ?_ | refine x_pv (pv_assign rfl) ?_
    refine x_nil ?_
    repeat (first|refine zA ?_|refine zB ?_|refine zC ?_|refine zD ?_|refine zE ?_|refine zF ?_|refine zG ?_|refine zH ?_|refine zI ?_|refine zJ ?_|refine zK ?_|refine zL ?_|refine zM rfl ?_|refine zN ?_|refine zO ?_|refine zP ?_|refine zQ ?_)
    have hss : ss.length ≤ 62 := hsl
    repeat (first|refine zA ?_|refine zB ?_|refine zC ?_|refine zD ?_|refine zE ?_|refine zF ?_|refine zG ?_|refine zH ?_|refine zI ?_|refine zJ ?_|refine zK ?_|refine zL ?_|refine zM rfl ?_|refine zN ?_|refine zO ?_|refine zP ?_|refine zQ ?_)
    refine x_reg ?_
    first | refine x_pv (pv_move_slice rfl) ?_ | refine x_pv (pv_move rfl) ?_
    refine x_call rfl (by kernel_rfl) (high_x (L := own 3 1 (.slice a5 ss.length c5) ss.length (ss.map nv) :: E) (rd_own .here) (by omega) hsd) rfl (by repeat (first | exact Take.nil | exact Take.all | (apply Take.cons; (next => (repeat constructor); done)) | apply Take.skip)) ?_
    rintro _ _ ⟨ah3, ch3, h3, h3d, h3v, h3l, rfl, rfl⟩
    refine xo_app (by repeat (first | exact App.nil | apply App.cons | (apply App.flip; first | exact App.nil | apply App.cons) | exact App.any)) ?_
    first | refine x_pv (pv_assign_slice rfl) ?_ | refine x_pv (pv_assign rfl) ?_
    refine x_nil ?_
    repeat (first|refine zA ?_|refine zB ?_|refine zC ?_|refine zD ?_|refine zE ?_|refine zF ?_|refine zG ?_|refine zH ?_|refine zI ?_|refine zJ ?_|refine zK ?_|refine zL ?_|refine zM rfl ?_|refine zN ?_|refine zO ?_|refine zP ?_|refine zQ ?_)
    refine x_loop_n (own 3 1 (.slice ah3 h3.length ch3) h3.length (h3.map nv) :: own 3 1 (.slice a5 ss.length c5) ss.length (ss.map nv) :: E, (a5, c5, ss), (ah3, ch3, h3)) ?_ ⟨Imp.tail.trans (Imp.tail.trans hE), rd_own (.there .here), hsd, hss, ?_, rd_own .here, h3d, h3v, h3l⟩ (by exact Imp.arr (by repeat (first | exact Arr.nil | exact Arr.stop | refine Arr.cons (by repeat constructor) ?_ | refine Arr.skip ?_))) ⟨rfl, rfl, trivial⟩
    · dsimp only
      rw [hsv, (lowD_val d hd).1, hmv, hhv]
      simp only [valD]
      omega
    · dsimp only
      rw [hsv, (lowD_val d hd).1, hmv, hhv, ← hdv]
      simp only [valD]
      omega
  · have hA : valD hi = 0 := Classical.not_not.1 hA
    have hv0 : valD d < 1361129467683753853853498429727072845824 := by rw [hhv] at hA; omega
    have hlo := lowD_val d hd
    repeat (first|refine zA ?_|refine zB ?_|refine zC ?_|refine zD ?_|refine zE ?_|refine zF ?_|refine zG ?_|refine zH ?_|refine zI ?_|refine zJ ?_|refine zK ?_|refine zL ?_|refine zM rfl ?_|refine zN ?_|refine zO ?_|refine zP ?_|refine zQ ?_)
    refine x_reg ?_
    first | refine x_pv (pv_move_slice rfl) ?_ | refine x_pv (pv_move rfl) ?_
    refine x_buildSlice (cs := #[.int .i64 _]) (by omega) (by omega) rfl ?_; intro b19
    refine x_call rfl (by kernel_rfl) (add_x (L := cl b19 #[.int .i64 5] 3 :: E) (n := 62) (la := d) (lb := [5]) (hrd.imp Imp.tail) (rd_five .here) hd dig_five (by omega) (by simp) (by omega) (by
          have : valD d < 256 ^ 61 := Nat.lt_of_lt_of_le hv0 (by decide)
          rw [show (256 : Nat) ^ 62 = 256 ^ 61 * 256 from Nat.pow_succ ..]; simp only [valD]; omega)) rfl (by repeat (first | exact Take.nil | exact Take.all | (apply Take.cons; (next => (repeat constructor); done)) | apply Take.skip)) ?_
    rintro _ _ ⟨a5, c5, mo, hmd, hmv, hml, rfl, rfl⟩
    refine xo_app (by repeat (first | exact App.nil | apply App.cons | (apply App.flip; first | exact App.nil | apply App.cons) | exact App.any)) ?_
    first | refine x_pv (pv_assign_slice rfl) ?_ | refine x_pv (pv_assign rfl) ?_
    refine x_nil ?_
    repeat (first|refine zA ?_|refine zB ?_|refine zC ?_|refine zD ?_|refine zE ?_|refine zF ?_|refine zG ?_|refine zH ?_|refine zI ?_|refine zJ ?_|refine zK ?_|refine zL ?_|refine zM rfl ?_|refine zN ?_|refine zO ?_|refine zP ?_|refine zQ ?_)
    have hf := fold_fin (valD d) (valD mo) hv0 (by rw [hmv]; simp [valD])
    repeat (first|refine zA ?_|refine zB ?_|refine zC ?_|refine zD ?_|refine zE ?_|refine zF ?_|refine zG ?_|refine zH ?_|refine zI ?_|refine zJ ?_|refine zK ?_|refine zL ?_|refine zM rfl ?_|refine zN ?_|refine zO ?_|refine zP ?_|refine zQ ?_)
    refine x_reg ?_
    first | refine x_pv (pv_move_slice rfl) ?_ | refine x_pv (pv_move rfl) ?_
    refine x_call rfl (by kernel_rfl) (high_x (L := own 3 1 (.slice a5 mo.length c5) mo.length (mo.map nv) :: E) (rd_own .here) (by omega) hmd) rfl (by repeat (first | exact Take.nil | exact Take.all | (apply Take.cons; (next => (repeat constructor); done)) | apply Take.skip)) ?_
    rintro _ _ ⟨ah3, ch3, h3, h3d, h3v, h3l, rfl, rfl⟩
    refine xo_app (by repeat (first | exact App.nil | apply App.cons | (apply App.flip; first | exact App.nil | apply App.cons) | exact App.any)) ?_
    refine x_call rfl (by kernel_rfl) (noughtD_x (L := own 3 1 (.slice ah3 h3.length ch3) h3.length (h3.map nv) :: E) (rd_own .here) (by omega)) rfl (by repeat (first | exact Take.nil | exact Take.all | (apply Take.cons; (next => (repeat constructor); done)) | apply Take.skip)) ?_
    rintro _ _ ⟨rfl, rfl⟩
    refine xo_app (by repeat (first | exact App.nil | apply App.cons | (apply App.flip; first | exact App.nil | apply App.cons) | exact App.any)) ?_
    first | refine x_pv (pv_not_p rfl) ?_ | refine x_pv (pv_not rfl) ?_
    refine x_nil ?_
    repeat (first|refine zA ?_|refine zB ?_|refine zC ?_|refine zD ?_|refine zE ?_|refine zF ?_|refine zG ?_|refine zH ?_|refine zI ?_|refine zJ ?_|refine zK ?_|refine zL ?_|refine zM rfl ?_|refine zN ?_|refine zO ?_|refine zP ?_|refine zQ ?_)
    refine x_cond_p (p := ¬ valD h3 = 0) (by show Value.bool _ = _; simp) (fun hB => ?_) (fun hB => ?_)
    · repeat (first|refine zA ?_|refine zB ?_|refine zC ?_|refine zD ?_|refine zE ?_|refine zF ?_|refine zG ?_|refine zH ?_|refine zI ?_|refine zJ ?_|refine zK ?_|refine zL ?_|refine zM rfl ?_|refine zN ?_|refine zO ?_|refine zP ?_|refine zQ ?_)
      refine x_reg ?_
      first | refine x_pv (pv_move_slice rfl) ?_ | refine x_pv (pv_move rfl) ?_
      refine x_call rfl (by kernel_rfl) (low_x (L := own 3 1 (.slice a5 mo.length c5) mo.length (mo.map nv) :: E) (rd_own .here) (by omega)) rfl (by repeat (first | exact Take.nil | exact Take.all | (apply Take.cons; (next => (repeat constructor); done)) | apply Take.skip)) ?_
      rintro _ _ ⟨al, ccl, lo, rfl, rfl, rfl⟩
      refine xo_app (by repeat (first | exact App.nil | apply App.cons | (apply App.flip; first | exact App.nil | apply App.cons) | exact App.any)) ?_
      first | refine x_pv (pv_assign_slice rfl) ?_ | refine x_pv (pv_assign rfl) ?_
      refine x_nil ?_
      repeat (first|refine zA ?_|refine zB ?_|refine zC ?_|refine zD ?_|refine zE ?_|refine zF ?_|refine zG ?_|refine zH ?_|refine zI ?_|refine zJ ?_|refine zK ?_|refine zL ?_|refine zM rfl ?_|refine zN ?_|refine zO ?_|refine zP ?_|refine zQ ?_)
      have hlm := lowD_val mo hmd
      refine rx1 (rx_slice rfl (rx_nil)) ?_
      exact ⟨_, ⟨al, ccl, _, hlm.2.1, by rw [hlm.1, hf.2 (by rw [← h3v]; exact hB), hdv], hlm.2.2, rfl, rfl⟩, (Imp.arr (N := own 3 1 (.slice al (lowD mo mo.length).length ccl) (lowD mo mo.length).length ((lowD mo mo.length).map nv) :: E) (by repeat (first | exact Arr.nil | exact Arr.stop | refine Arr.cons (by repeat constructor) ?_ | refine Arr.skip ?_))).trans hE.cons⟩
    · have hB : valD h3 = 0 := Classical.not_not.1 hB
      repeat (first|refine zA ?_|refine zB ?_|refine zC ?_|refine zD ?_|refine zE ?_|refine zF ?_|refine zG ?_|refine zH ?_|refine zI ?_|refine zJ ?_|refine zK ?_|refine zL ?_|refine zM rfl ?_|refine zN ?_|refine zO ?_|refine zP ?_|refine zQ ?_)
      refine x_reg ?_
      first | refine x_pv (pv_move_slice rfl) ?_ | refine x_pv (pv_move rfl) ?_
      refine x_call rfl (by kernel_rfl) (low_x (L := E) hrd (by omega)) rfl (by repeat (first | exact Take.nil | exact Take.all | (apply Take.cons; (next => (repeat constructor); done)) | apply Take.skip)) ?_
      rintro _ _ ⟨al, ccl, lo, rfl, rfl, rfl⟩
      refine xo_app (by repeat (first | exact App.nil | apply App.cons | (apply App.flip; first | exact App.nil | apply App.cons) | exact App.any)) ?_
      first | refine x_pv (pv_assign_slice rfl) ?_ | refine x_pv (pv_assign rfl) ?_
      refine x_nil ?_
      repeat (first|refine zA ?_|refine zB ?_|refine zC ?_|refine zD ?_|refine zE ?_|refine zF ?_|refine zG ?_|refine zH ?_|refine zI ?_|refine zJ ?_|refine zK ?_|refine zL ?_|refine zM rfl ?_|refine zN ?_|refine zO ?_|refine zP ?_|refine zQ ?_)
      refine rx1 (rx_slice rfl (rx_nil)) ?_
      exact ⟨_, ⟨al, ccl, _, hlo.2.1, by rw [hlo.1, hf.1 (by rw [← h3v]; exact hB), hdv], hlo.2.2, rfl, rfl⟩, (Imp.arr (N := own 3 1 (.slice al (lowD d d.length).length ccl) (lowD d d.length).length ((lowD d d.length).map nv) :: E) (by repeat (first | exact Arr.nil | exact Arr.stop | refine Arr.cons (by repeat constructor) ?_ | refine Arr.skip ?_))).trans hE.cons⟩
end Go.Sl
