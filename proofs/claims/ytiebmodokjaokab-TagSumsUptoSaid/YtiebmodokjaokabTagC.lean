/- tag: Write, walked. -/
import Derived.Test.YtiebmodokjaokabTagB
set_option maxHeartbeats 4000000
set_option maxRecDepth 10000
set_option linter.unusedVariables false
set_option linter.unusedSimpArgs false
namespace Go.Sl
open Go Go.Proofs
attribute [local irreducible] cl pt own old pur ex all den denOps denS xOps xC cX CX xthen xblk xcut xloop retX resX Calls PV Rd Con
attribute [local irreducible] pc writeS takeW full put1 setU setH
theorem pc_eq {t u : PolyS} (h : t = u) (p : Nat) : cl p (pc t) 74 = cl p (pc u) 74 := by rw [h]
theorem write_nil_c (v : Value) (a : Option Addr) (n c : Nat) (hv : v = .slice a n c) : Con Try.prog 22 [.pointer none, v] [] (fun v M => v = .tuple #[.int .i64 0, .iface 68 (.int .i64 1)] ∧ M = []) := by
  subst hv
  refine fn_x Try.func22 rfl rfl rfl Try.mixed (by kernel_rfl) ?_
  intro w0
  repeat (first|refine zA ?_|refine zB ?_|refine zC ?_|refine zD ?_|refine zE ?_|refine zF ?_|refine zG ?_|refine zH ?_|refine zI ?_|refine zJ ?_|refine zK ?_|refine zL ?_|refine zM rfl ?_|refine zN ?_|refine zO ?_|refine zP ?_|refine zQ ?_)
  refine x_reg ?_
  first | refine x_pv (pv_assign_int rfl) ?_ | refine x_pv (pv_assign rfl) ?_
  first | refine x_pv (pv_assign_ifc rfl) ?_ | refine x_pv (pv_assign rfl) ?_
  refine x_nil ?_
  repeat (first|refine zA ?_|refine zB ?_|refine zC ?_|refine zD ?_|refine zE ?_|refine zF ?_|refine zG ?_|refine zH ?_|refine zI ?_|refine zJ ?_|refine zK ?_|refine zL ?_|refine zM rfl ?_|refine zN ?_|refine zO ?_|refine zP ?_|refine zQ ?_)
  refine x_reg ?_
  first | refine x_pv (pv_move_ptr rfl) ?_ | refine x_pv (pv_move rfl) ?_
  refine x_pv (pv_eql_ptr_nil rfl rfl) ?_
  refine x_nil ?_
  repeat (first|refine zA ?_|refine zB ?_|refine zC ?_|refine zD ?_|refine zE ?_|refine zF ?_|refine zG ?_|refine zH ?_|refine zI ?_|refine zJ ?_|refine zK ?_|refine zL ?_|refine zM rfl ?_|refine zN ?_|refine zO ?_|refine zP ?_|refine zQ ?_)
  refine x_cond_t rfl ?_
  repeat (first|refine zA ?_|refine zB ?_|refine zC ?_|refine zD ?_|refine zE ?_|refine zF ?_|refine zG ?_|refine zH ?_|refine zI ?_|refine zJ ?_|refine zK ?_|refine zL ?_|refine zM rfl ?_|refine zN ?_|refine zO ?_|refine zP ?_|refine zQ ?_)
  refine x_reg ?_
  refine x_pv (pv_mkifc_i rfl) ?_
  first | refine x_pv (pv_assign_int rfl) ?_ | refine x_pv (pv_assign rfl) ?_
  first | refine x_pv (pv_assign_ifc rfl) ?_ | refine x_pv (pv_assign rfl) ?_
  refine x_nil ?_
  repeat (first|refine zA ?_|refine zB ?_|refine zC ?_|refine zD ?_|refine zE ?_|refine zF ?_|refine zG ?_|refine zH ?_|refine zI ?_|refine zJ ?_|refine zK ?_|refine zL ?_|refine zM rfl ?_|refine zN ?_|refine zO ?_|refine zP ?_|refine zQ ?_)
  refine rx2 (rx_int rfl (rx_tmp rfl (rx_nil))) ?_
  exact ⟨_, ⟨rfl, rfl⟩, by exact Imp.arr (by repeat (first | exact Arr.nil | exact Arr.stop | refine Arr.cons (by repeat constructor) ?_ | refine Arr.skip ?_))⟩
theorem setU_put1 (t : PolyS) (x : List Byte) : setU (setU (put1 t x) t.used) (t.used + x.length) = put1 t x := by unfold setU put1; rfl
theorem setU_used {t : PolyS} {n : Nat} (h : (setU t n).rest.length = 16) : (pc (setU t n))[23]? = some (.int .i64 n) := by
  rw [pc_used h]; unfold setU; rfl
theorem write_c {p : Nat} {L : List Asrt} (t : PolyS) (ht : PolyOk t) (b : List Byte) (a : Option Addr) (c : Nat) (hc : b.length ≤ c) (hcm : c ≤ 9223372036854775807) (hv : Rd L 1 (.slice a b.length c) b.length (b.map u8b)) :
    Con Try.prog 22 [.pointer (some ⟨p, 0, none⟩), .slice a b.length c] (cl p (pc t) 74 :: L)
      (fun v M => v = .tuple #[.int .i64 b.length, .nilIface] ∧ M = cl p (pc (writeS t b)) 74 :: L) := by
  refine fn_x Try.func22 rfl rfl rfl Try.mixed (by kernel_rfl) ?_
  intro w0
  repeat (first|refine zA ?_|refine zB ?_|refine zC ?_|refine zD ?_|refine zE ?_|refine zF ?_|refine zG ?_|refine zH ?_|refine zI ?_|refine zJ ?_|refine zK ?_|refine zL ?_|refine zM rfl ?_|refine zN ?_|refine zO ?_|refine zP ?_|refine zQ ?_)
  refine x_reg ?_
  first | refine x_pv (pv_assign_int rfl) ?_ | refine x_pv (pv_assign rfl) ?_
  first | refine x_pv (pv_assign_ifc rfl) ?_ | refine x_pv (pv_assign rfl) ?_
  refine x_nil ?_
  repeat (first|refine zA ?_|refine zB ?_|refine zC ?_|refine zD ?_|refine zE ?_|refine zF ?_|refine zG ?_|refine zH ?_|refine zI ?_|refine zJ ?_|refine zK ?_|refine zL ?_|refine zM rfl ?_|refine zN ?_|refine zO ?_|refine zP ?_|refine zQ ?_)
  refine x_reg ?_
  first | refine x_pv (pv_move_ptr rfl) ?_ | refine x_pv (pv_move rfl) ?_
  refine x_pv (pv_eql_ptr_nil rfl rfl) ?_
  refine x_nil ?_
  repeat (first|refine zA ?_|refine zB ?_|refine zC ?_|refine zD ?_|refine zE ?_|refine zF ?_|refine zG ?_|refine zH ?_|refine zI ?_|refine zJ ?_|refine zK ?_|refine zL ?_|refine zM rfl ?_|refine zN ?_|refine zO ?_|refine zP ?_|refine zQ ?_)
  refine x_cond_f rfl ?_
  repeat (first|refine zA ?_|refine zB ?_|refine zC ?_|refine zD ?_|refine zE ?_|refine zF ?_|refine zG ?_|refine zH ?_|refine zI ?_|refine zJ ?_|refine zK ?_|refine zL ?_|refine zM rfl ?_|refine zN ?_|refine zO ?_|refine zP ?_|refine zQ ?_)
  refine x_reg ?_
  first | refine x_pv (pv_move_slice rfl) ?_ | refine x_pv (pv_move rfl) ?_
  first | refine x_pv (pv_assign_slice rfl) ?_ | refine x_pv (pv_assign rfl) ?_
  refine x_nil ?_
  repeat (first|refine zA ?_|refine zB ?_|refine zC ?_|refine zD ?_|refine zE ?_|refine zF ?_|refine zG ?_|refine zH ?_|refine zI ?_|refine zJ ?_|refine zK ?_|refine zL ?_|refine zM rfl ?_|refine zN ?_|refine zO ?_|refine zP ?_|refine zQ ?_)
  refine x_loop [(6, 7), (12, 49)] (by kernel_rfl)
    (fun s : Nat × Option Addr × Nat × Nat => s.2.2.2 = b.length - s.1 ∧ s.1 ≤ b.length ∧ b.length - s.1 ≤ s.2.2.1 ∧ Rd L 1 (.slice s.2.1 (b.length - s.1) s.2.2.1) (b.length - s.1) ((b.drop s.1).map u8b))
    (fun s => cl p (pc (writeS t (b.take s.1))) 74 :: L) (fun s => [(6, .slice s.2.1 s.2.2.2 s.2.2.1)]) (fun s => b.length - s.1) (0, a, c, b.length) ⟨rfl, Nat.zero_le _, hc, hv⟩ (by dsimp only; rw [writeS_zero]; exact Imp.refl _) ⟨rfl, trivial⟩ ?_
  rintro ⟨i, a, c, n⟩ u ⟨hn, hi, hc, hv⟩
  dsimp only at hn hi hc hv ⊢
  subst hn
  have hti : PolyOk (writeS t (b.take i)) := writeS_ok ht
  generalize hT : writeS t (b.take i) = T at hti
  have hu := hti.used
  have hsz := pc_size hti.rest
  repeat (first|refine zA ?_|refine zB ?_|refine zC ?_|refine zD ?_|refine zE ?_|refine zF ?_|refine zG ?_|refine zH ?_|refine zI ?_|refine zJ ?_|refine zK ?_|refine zL ?_|refine zM rfl ?_|refine zN ?_|refine zO ?_|refine zP ?_|refine zQ ?_)
  refine x_reg ?_
  first | refine x_pv (pv_move_slice rfl) ?_ | refine x_pv (pv_move rfl) ?_
  first | refine x_pv (pv_len rfl) ?_ | refine x_pv (pv_len_arr) ?_ | refine x_pv (pv_len_str rfl) ?_
  first | refine x_pv (pv_gtrn (b := 0) rfl rfl) ?_ | refine x_pv (pv_gtr rfl rfl) ?_
  refine x_nil ?_
  repeat (first|refine zA ?_|refine zB ?_|refine zC ?_|refine zD ?_|refine zE ?_|refine zF ?_|refine zG ?_|refine zH ?_|refine zI ?_|refine zJ ?_|refine zK ?_|refine zL ?_|refine zM rfl ?_|refine zN ?_|refine zO ?_|refine zP ?_|refine zQ ?_)
  refine x_cond_p rfl (fun hB => ?_) (fun hB => ?_)
  · obtain ⟨m, hm⟩ : ∃ m, m = min (b.length - i) (16 - T.used) := ⟨_, rfl⟩
    have hm0 : 0 < m := by omega
    obtain ⟨x, hx⟩ : ∃ x, x = (b.drop i).take m := ⟨_, rfl⟩
    have hxl : x.length = m := by rw [hx]; simp; omega
    have htot : b.take (i + m) = b.take i ++ x := by rw [hx, List.take_add]
    have hw : writeS t (b.take (i + m)) = full (put1 T x) := by rw [htot, writeS_append, hT, write_put hti (by omega)]
    have hcp : wr (pc T) (7 + T.used) (((b.drop i).map u8b).take (m * 1)) = pc (setU (put1 T x) T.used) := by
      rw [← pc_copy hti.rest (by omega), ← List.map_take, Nat.mul_one, ← hx]
    have hpr : (put1 T x).rest.length = 16 := put1_rest hti (by omega)
    have hpru : (setU (put1 T x) T.used).rest.length = 16 := by unfold setU; exact hpr
    have hsz2 : (pc (setU (put1 T x) T.used)).size = 24 := pc_size hpru
    have hsz3 : (pc (put1 T x)).size = 24 := pc_size hpr
    have hs1 : (pc (setU (put1 T x) T.used)).setIfInBounds 23 (.int .i64 ((T.used + m : Nat) : Int)) = pc (put1 T x) := by
      rw [pc_setUsed (t := setU (put1 T x) T.used) hpru (T.used + m), ← hxl, setU_put1]
    have hv2 : Rd L 1 (.slice (if c = m then a else a.map (·.add (m * 1))) (b.length - (i + m)) (c - m)) (b.length - (i + m)) ((b.drop (i + m)).map u8b) := by
      have := hv.cut (l := m) (by omega) hc
      rw [← List.map_drop, List.drop_drop] at this
      rwa [show b.length - (i + m) = b.length - i - m by omega]
    repeat (first|refine zA ?_|refine zB ?_|refine zC ?_|refine zD ?_|refine zE ?_|refine zF ?_|refine zG ?_|refine zH ?_|refine zI ?_|refine zJ ?_|refine zK ?_|refine zL ?_|refine zM rfl ?_|refine zN ?_|refine zO ?_|refine zP ?_|refine zQ ?_)
    refine x_draw (_) [0, 1, 2, 3, 4, 5, 6, 7, 8] (.r 0 (.r 1 (.r 2 (.r 3 (.r 4 (.r 5 (.r 6 (.r 7 (.r 8 (.e 9 false (.q 10 .nil))))))))))) (by kernel_rfl) (by kernel_rfl) (Imp.refl _) ?_
    first | refine cx_p rfl (pv_move_ptr rfl) ?_ | refine cx_p rfl (pv_move rfl) ?_
    refine cx_p rfl (pv_nil_ptr rfl) ?_
    first | refine cx_p rfl (pv_fieldAddrz rfl (by omega)) ?_ | refine cx_p rfl (pv_fieldAddr rfl (by omega)) ?_
    first | refine cx_p rfl (pv_move_ptr rfl) ?_ | refine cx_p rfl (pv_move rfl) ?_
    refine cx_p rfl (pv_nil_ptr rfl) ?_
    first | refine cx_p rfl (pv_fieldAddrz rfl (by omega)) ?_ | refine cx_p rfl (pv_fieldAddr rfl (by omega)) ?_
    refine cx_load rfl rfl (by repeat constructor) (pc_used hti.rest) ?_
    refine cx_p rfl (pv_sla1 (h := 16) rfl rfl rfl (by first | omega | exact Nat.le_of_ble_eq_true rfl | (simp; done) | (simp; omega) | decide) (by first | omega | exact Nat.le_of_ble_eq_true rfl | (simp; done) | (simp; omega) | decide) (by first | omega | exact Nat.le_of_ble_eq_true rfl | (simp; done) | (simp; omega) | decide)) ?_
    first | refine cx_p rfl (pv_move_slice rfl) ?_ | refine cx_p rfl (pv_move rfl) ?_
    refine cx_e rfl ?_; refine x_copy (c' := pc (setU (put1 T x) T.used)) rfl rfl (hv.imp Imp.tail) (by repeat constructor) (by rw [hsz]; omega) (oneM_u8 _) (by rw [← hm]; exact hcp) ?_; refine x_nil ⟨(fun hh => Bool.noConfusion hh), ?_⟩
    first | refine cx_q rfl (pv_assign_int rfl) ?_ | refine cx_q rfl (pv_assign rfl) ?_
    refine cx_nil ?_
    repeat (first|refine zA ?_|refine zB ?_|refine zC ?_|refine zD ?_|refine zE ?_|refine zF ?_|refine zG ?_|refine zH ?_|refine zI ?_|refine zJ ?_|refine zK ?_|refine zL ?_|refine zM rfl ?_|refine zN ?_|refine zO ?_|refine zP ?_|refine zQ ?_)
    rw [← hm]
    repeat (first|refine zA ?_|refine zB ?_|refine zC ?_|refine zD ?_|refine zE ?_|refine zF ?_|refine zG ?_|refine zH ?_|refine zI ?_|refine zJ ?_|refine zK ?_|refine zL ?_|refine zM rfl ?_|refine zN ?_|refine zO ?_|refine zP ?_|refine zQ ?_)
    refine x_reg ?_
    first | refine x_pv (pv_move_ptr rfl) ?_ | refine x_pv (pv_move rfl) ?_
    refine x_pv (pv_nil_ptr rfl) ?_
    first | refine x_pv (pv_fieldAddrz rfl (by omega)) ?_ | refine x_pv (pv_fieldAddr rfl (by omega)) ?_
    refine x_load rfl (by repeat constructor) (setU_used hpru) ?_
    first | refine x_pv (pv_move_int rfl) ?_ | refine x_pv (pv_move rfl) ?_
    first | refine x_pv (pv_addn rfl rfl (by first | omega | exact Nat.le_of_ble_eq_true rfl | (simp; done) | (simp; omega) | decide)) ?_ | refine x_pv (pv_add_i rfl rfl (by first | omega | exact Nat.le_of_ble_eq_true rfl | (simp; done) | (simp; omega) | decide)) ?_
    refine x_pv (pv_nil_ptr rfl) ?_
    first | refine x_pv (pv_fieldAddrz rfl (by omega)) ?_ | refine x_pv (pv_fieldAddr rfl (by omega)) ?_
    refine x_store_i rfl rfl (by repeat constructor) (by first | rfl | omega | (rw [szL]; omega) | exact Nat.le_of_ble_eq_true rfl | (simp; done) | (simp; omega)) (hs1) ?_
    refine x_nil ?_
    repeat (first|refine zA ?_|refine zB ?_|refine zC ?_|refine zD ?_|refine zE ?_|refine zF ?_|refine zG ?_|refine zH ?_|refine zI ?_|refine zJ ?_|refine zK ?_|refine zL ?_|refine zM rfl ?_|refine zN ?_|refine zO ?_|refine zP ?_|refine zQ ?_)
    refine x_reg ?_
    first | refine x_pv (pv_move_slice rfl) ?_ | refine x_pv (pv_move rfl) ?_
    first | refine x_pv (pv_move_int rfl) ?_ | refine x_pv (pv_move rfl) ?_
    refine x_pv (pv_slsc (l := m) (h := b.length - i) rfl rfl rfl (by omega) (by omega)) ?_
    first | refine x_pv (pv_assign_slice rfl) ?_ | refine x_pv (pv_assign rfl) ?_
    refine x_nil ?_
    repeat (first|refine zA ?_|refine zB ?_|refine zC ?_|refine zD ?_|refine zE ?_|refine zF ?_|refine zG ?_|refine zH ?_|refine zI ?_|refine zJ ?_|refine zK ?_|refine zL ?_|refine zM rfl ?_|refine zN ?_|refine zO ?_|refine zP ?_|refine zQ ?_)
    refine x_reg ?_
    first | refine x_pv (pv_move_ptr rfl) ?_ | refine x_pv (pv_move rfl) ?_
    refine x_pv (pv_nil_ptr rfl) ?_
    first | refine x_pv (pv_fieldAddrz rfl (by omega)) ?_ | refine x_pv (pv_fieldAddr rfl (by omega)) ?_
    refine x_load rfl (by repeat constructor) (pc_used hpr) ?_
    first | refine x_pv (pv_eqln (b := 16) rfl rfl) ?_ | refine x_pv (pv_eql rfl rfl) ?_
    refine x_nil ?_
    repeat (first|refine zA ?_|refine zB ?_|refine zC ?_|refine zD ?_|refine zE ?_|refine zF ?_|refine zG ?_|refine zH ?_|refine zI ?_|refine zJ ?_|refine zK ?_|refine zL ?_|refine zM rfl ?_|refine zN ?_|refine zO ?_|refine zP ?_|refine zQ ?_)
    rw [show b.length - i - m = b.length - (i + m) by omega]
    refine x_cond_p rfl (fun hB2 => ?_) (fun hB2 => ?_)
    · have hprh : (setH (put1 T x) (takeW (put1 T x).h (put1 T x).r (put1 T x).rest 1#64)).rest.length = 16 := by unfold setH; exact hpr
      have hfull : full (put1 T x) = setU (setH (put1 T x) (takeW (put1 T x).h (put1 T x).r (put1 T x).rest 1#64)) 0 := by rw [full, if_pos hB2]
      have hsz4 : (pc (setH (put1 T x) (takeW (put1 T x).h (put1 T x).r (put1 T x).rest 1#64))).size = 24 := pc_size hprh
      have hs2 : (pc (setH (put1 T x) (takeW (put1 T x).h (put1 T x).r (put1 T x).rest 1#64))).setIfInBounds 23 (.int .i64 0) = pc (writeS t (b.take (i + m))) := by
        rw [hw, hfull]
        exact pc_setUsed hprh 0
      repeat (first|refine zA ?_|refine zB ?_|refine zC ?_|refine zD ?_|refine zE ?_|refine zF ?_|refine zG ?_|refine zH ?_|refine zI ?_|refine zJ ?_|refine zK ?_|refine zL ?_|refine zM rfl ?_|refine zN ?_|refine zO ?_|refine zP ?_|refine zQ ?_)
      refine x_reg ?_
      first | refine x_pv (pv_move_ptr rfl) ?_ | refine x_pv (pv_move rfl) ?_
      first | refine x_pv (pv_move_ptr rfl) ?_ | refine x_pv (pv_move rfl) ?_
      refine x_pv (pv_nil_ptr rfl) ?_
      first | refine x_pv (pv_fieldAddrz rfl (by omega)) ?_ | refine x_pv (pv_fieldAddr rfl (by omega)) ?_
      first | refine x_load_all rfl (by repeat constructor) (by first | rfl | omega | (rw [szL]; omega) | exact Nat.le_of_ble_eq_true rfl | (simp; done) | (simp; omega)) ?_ | refine x_load_agg rfl (by repeat constructor) (by first | rfl | omega | (rw [szL]; omega) | exact Nat.le_of_ble_eq_true rfl | (simp; done) | (simp; omega)) (pc_rest hpr) ?_
      refine x_call rfl (by kernel_rfl) (take_c _ hpr _ hpr 1#64) rfl (by repeat (first | exact Take.nil | exact Take.all | (apply Take.cons; (next => repeat constructor; done)) | apply Take.skip)) ?_
      rintro _ _ ⟨rfl, rfl⟩
      refine xo_app (by repeat (first | exact App.nil | apply App.cons | (apply App.flip; first | exact App.nil | apply App.cons) | exact App.any)) ?_
      refine x_nil ?_
      repeat (first|refine zA ?_|refine zB ?_|refine zC ?_|refine zD ?_|refine zE ?_|refine zF ?_|refine zG ?_|refine zH ?_|refine zI ?_|refine zJ ?_|refine zK ?_|refine zL ?_|refine zM rfl ?_|refine zN ?_|refine zO ?_|refine zP ?_|refine zQ ?_)
      refine x_reg ?_
      first | refine x_pv (pv_move_ptr rfl) ?_ | refine x_pv (pv_move rfl) ?_
      refine x_pv (pv_nil_ptr rfl) ?_
      first | refine x_pv (pv_fieldAddrz rfl (by omega)) ?_ | refine x_pv (pv_fieldAddr rfl (by omega)) ?_
      refine x_store_i rfl rfl (by repeat constructor) (by first | rfl | omega | (rw [szL]; omega) | exact Nat.le_of_ble_eq_true rfl | (simp; done) | (simp; omega)) (hs2) ?_
      refine x_nil ?_
      repeat (first|refine zA ?_|refine zB ?_|refine zC ?_|refine zD ?_|refine zE ?_|refine zF ?_|refine zG ?_|refine zH ?_|refine zI ?_|refine zJ ?_|refine zK ?_|refine zL ?_|refine zM rfl ?_|refine zN ?_|refine zO ?_|refine zP ?_|refine zQ ?_)
      exact x_loop_n (i + m, _, _, _) (by dsimp only; omega) ⟨rfl, by dsimp only; omega, by dsimp only; omega, hv2⟩ (by exact Imp.arr (by repeat (first | exact Arr.nil | exact Arr.stop | refine Arr.cons (by repeat constructor) ?_ | refine Arr.skip ?_))) ⟨rfl, trivial⟩
    · have hw2 : writeS t (b.take (i + m)) = put1 T x := by rw [hw, full, if_neg hB2]
      rw [← hw2]
      repeat (first|refine zA ?_|refine zB ?_|refine zC ?_|refine zD ?_|refine zE ?_|refine zF ?_|refine zG ?_|refine zH ?_|refine zI ?_|refine zJ ?_|refine zK ?_|refine zL ?_|refine zM rfl ?_|refine zN ?_|refine zO ?_|refine zP ?_|refine zQ ?_)
      exact x_loop_n (i + m, _, _, _) (by dsimp only; omega) ⟨rfl, by dsimp only; omega, by dsimp only; omega, hv2⟩ (by exact Imp.arr (by repeat (first | exact Arr.nil | exact Arr.stop | refine Arr.cons (by repeat constructor) ?_ | refine Arr.skip ?_))) ⟨rfl, trivial⟩
  · have hie : i = b.length := by omega
    have hw : T = writeS t b := by rw [← hT, List.take_of_length_le (by omega)]
    repeat (first|refine zA ?_|refine zB ?_|refine zC ?_|refine zD ?_|refine zE ?_|refine zF ?_|refine zG ?_|refine zH ?_|refine zI ?_|refine zJ ?_|refine zK ?_|refine zL ?_|refine zM rfl ?_|refine zN ?_|refine zO ?_|refine zP ?_|refine zQ ?_)
    refine x_reg ?_
    first | refine x_pv (pv_move_slice rfl) ?_ | refine x_pv (pv_move rfl) ?_
    first | refine x_pv (pv_len rfl) ?_ | refine x_pv (pv_len_arr) ?_ | refine x_pv (pv_len_str rfl) ?_
    first | refine x_pv (pv_assign_int rfl) ?_ | refine x_pv (pv_assign rfl) ?_
    first | refine x_pv (pv_assign_ifc rfl) ?_ | refine x_pv (pv_assign rfl) ?_
    refine x_nil ?_
    repeat (first|refine zA ?_|refine zB ?_|refine zC ?_|refine zD ?_|refine zE ?_|refine zF ?_|refine zG ?_|refine zH ?_|refine zI ?_|refine zJ ?_|refine zK ?_|refine zL ?_|refine zM rfl ?_|refine zN ?_|refine zO ?_|refine zP ?_|refine zQ ?_)
    refine rx2 (rx_int rfl (rx_tmp rfl (rx_nil))) ?_
    rw [hw]
    exact ⟨_, ⟨rfl, rfl⟩, by exact Imp.arr (by repeat (first | exact Arr.nil | exact Arr.stop | refine Arr.cons (by repeat constructor) ?_ | refine Arr.skip ?_))⟩
end Go.Sl
