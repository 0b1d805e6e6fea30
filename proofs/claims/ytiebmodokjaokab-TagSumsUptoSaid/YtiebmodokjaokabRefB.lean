/- the statements' small helpers: lists of bytes compared, copied, joined. -/
import Derived.Test.YtiebmodokjaokabTyB
set_option maxHeartbeats 4000000
set_option maxRecDepth 10000
set_option linter.unusedVariables false
set_option linter.unusedSimpArgs false
namespace Go.Sl
open Go Go.Proofs
attribute [local irreducible] cl pt own old pur ex all den denOps denS xOps xC cX CX xthen xblk xcut xloop retX resX Calls PV Rd Con
theorem app_take_succ {α β : Type} {f : α → β} (a : List α) {l : List α} {k : Nat} (h : k < l.length) : (a ++ l.take (k + 1)).map f = (a ++ l.take k).map f ++ [f l[k]] := by
  rw [List.take_succ_eq_append_getElem h, ← List.append_assoc, List.map_append]; rfl
theorem eqBytes_x {L : List Asrt} {va vb : Value} {a b : List Byte} (ha : Bs L va a) (hb : Bs L vb b) : Con Try.prog 41 [va, vb] L (fun v M => v = .bool (decide (a = b)) ∧ L = M) := by
  refine Con.get (fun w0 w F H => ha.sh _ _ _ H) ?_
  rintro ⟨aa, ac, rfl, hac, hacm⟩
  refine Con.get (fun w0 w F H => hb.sh _ _ _ H) ?_
  rintro ⟨ba, bc, rfl, hbc, hbcm⟩
  refine fn_x Try.func41 rfl rfl rfl Try.mixed (by kernel_rfl) ?_
  intro w0
  repeat (first|refine zA ?_|refine zB ?_|refine zC ?_|refine zD ?_|refine zE ?_|refine zF ?_|refine zG ?_|refine zH ?_|refine zI ?_|refine zJ ?_|refine zK ?_|refine zL ?_|refine zM rfl ?_|refine zN ?_|refine zO ?_|refine zP ?_|refine zQ ?_)
  refine x_reg ?_
  first | refine x_pv (pv_assign_bool rfl) ?_ | refine x_pv (pv_assign rfl) ?_
  refine x_nil ?_
  repeat (first|refine zA ?_|refine zB ?_|refine zC ?_|refine zD ?_|refine zE ?_|refine zF ?_|refine zG ?_|refine zH ?_|refine zI ?_|refine zJ ?_|refine zK ?_|refine zL ?_|refine zM rfl ?_|refine zN ?_|refine zO ?_|refine zP ?_|refine zQ ?_)
  refine x_reg ?_
  first | refine x_pv (pv_move_slice rfl) ?_ | refine x_pv (pv_move rfl) ?_
  first | refine x_pv (pv_len rfl) ?_ | refine x_pv (pv_len_arr) ?_ | refine x_pv (pv_len_str rfl) ?_
  first | refine x_pv (pv_move_slice rfl) ?_ | refine x_pv (pv_move rfl) ?_
  first | refine x_pv (pv_len rfl) ?_ | refine x_pv (pv_len_arr) ?_ | refine x_pv (pv_len_str rfl) ?_
  first | refine x_pv (pv_neqn rfl rfl) ?_ | refine x_pv (pv_neq rfl rfl) ?_
  refine x_nil ?_
  repeat (first|refine zA ?_|refine zB ?_|refine zC ?_|refine zD ?_|refine zE ?_|refine zF ?_|refine zG ?_|refine zH ?_|refine zI ?_|refine zJ ?_|refine zK ?_|refine zL ?_|refine zM rfl ?_|refine zN ?_|refine zO ?_|refine zP ?_|refine zQ ?_)
  refine x_cond_p rfl (fun hB => ?_) (fun hB => ?_)
  · repeat (first|refine zA ?_|refine zB ?_|refine zC ?_|refine zD ?_|refine zE ?_|refine zF ?_|refine zG ?_|refine zH ?_|refine zI ?_|refine zJ ?_|refine zK ?_|refine zL ?_|refine zM rfl ?_|refine zN ?_|refine zO ?_|refine zP ?_|refine zQ ?_)
    refine x_reg ?_
    first | refine x_pv (pv_assign_bool rfl) ?_ | refine x_pv (pv_assign rfl) ?_
    refine x_nil ?_
    repeat (first|refine zA ?_|refine zB ?_|refine zC ?_|refine zD ?_|refine zE ?_|refine zF ?_|refine zG ?_|refine zH ?_|refine zI ?_|refine zJ ?_|refine zK ?_|refine zL ?_|refine zM rfl ?_|refine zN ?_|refine zO ?_|refine zP ?_|refine zQ ?_)
    refine rx1 (rx_bool rfl (rx_nil)) ?_
    exact ⟨_, ⟨by rw [decide_eq_false (fun h => hB (by rw [h]))], rfl⟩, by exact Imp.arr (by repeat (first | exact Arr.nil | exact Arr.stop | refine Arr.cons (by repeat constructor) ?_ | refine Arr.skip ?_))⟩
  have hlen : a.length = b.length := by omega
  repeat (first|refine zA ?_|refine zB ?_|refine zC ?_|refine zD ?_|refine zE ?_|refine zF ?_|refine zG ?_|refine zH ?_|refine zI ?_|refine zJ ?_|refine zK ?_|refine zL ?_|refine zM rfl ?_|refine zN ?_|refine zO ?_|refine zP ?_|refine zQ ?_)
  refine x_reg ?_
  first | refine x_pv (pv_assign_int rfl) ?_ | refine x_pv (pv_assign rfl) ?_
  refine x_nil ?_
  repeat (first|refine zA ?_|refine zB ?_|refine zC ?_|refine zD ?_|refine zE ?_|refine zF ?_|refine zG ?_|refine zH ?_|refine zI ?_|refine zJ ?_|refine zK ?_|refine zL ?_|refine zM rfl ?_|refine zN ?_|refine zO ?_|refine zP ?_|refine zQ ?_)
  refine x_loop [(4, 5), (11, 25)] (by kernel_rfl) (fun i : Nat => i ≤ a.length ∧ a.take i = b.take i) (fun _ => L) (fun i => [(5, .int .i64 (i : Int))]) (fun i => a.length - i) 0 ⟨by omega, rfl⟩ (Imp.refl _) ⟨rfl, trivial⟩ ?_
  rintro i u ⟨hi, he⟩
  repeat (first|refine zA ?_|refine zB ?_|refine zC ?_|refine zD ?_|refine zE ?_|refine zF ?_|refine zG ?_|refine zH ?_|refine zI ?_|refine zJ ?_|refine zK ?_|refine zL ?_|refine zM rfl ?_|refine zN ?_|refine zO ?_|refine zP ?_|refine zQ ?_)
  refine x_reg ?_
  first | refine x_pv (pv_move_int rfl) ?_ | refine x_pv (pv_move rfl) ?_
  first | refine x_pv (pv_move_slice rfl) ?_ | refine x_pv (pv_move rfl) ?_
  first | refine x_pv (pv_len rfl) ?_ | refine x_pv (pv_len_arr) ?_ | refine x_pv (pv_len_str rfl) ?_
  first | refine x_pv (pv_lssn rfl rfl) ?_ | refine x_pv (pv_lss rfl rfl) ?_
  refine x_nil ?_
  repeat (first|refine zA ?_|refine zB ?_|refine zC ?_|refine zD ?_|refine zE ?_|refine zF ?_|refine zG ?_|refine zH ?_|refine zI ?_|refine zJ ?_|refine zK ?_|refine zL ?_|refine zM rfl ?_|refine zN ?_|refine zO ?_|refine zP ?_|refine zQ ?_)
  refine x_cond_p rfl (fun hB => ?_) (fun hB => ?_)
  · have hib : i < b.length := by omega
    refine x_get (fun F w H => ha.some (by omega) H) ?_
    rintro ⟨a1, a2, rfl⟩
    refine x_get (fun F w H => hb.some (by omega) H) ?_
    rintro ⟨b1, b2, rfl⟩
    repeat (first|refine zA ?_|refine zB ?_|refine zC ?_|refine zD ?_|refine zE ?_|refine zF ?_|refine zG ?_|refine zH ?_|refine zI ?_|refine zJ ?_|refine zK ?_|refine zL ?_|refine zM rfl ?_|refine zN ?_|refine zO ?_|refine zP ?_|refine zQ ?_)
    refine x_draw (_) [0, 1, 2, 3, 4, 5, 6, 7] (.r 0 (.r 1 (.r 2 (.r 3 (.r 4 (.r 5 (.r 6 (.r 7 (.q 8 .nil))))))))) (by kernel_rfl) (by kernel_rfl) (Imp.refl _) ?_
    first | refine cx_p rfl (pv_move_slice rfl) ?_ | refine cx_p rfl (pv_move rfl) ?_
    first | refine cx_p rfl (pv_move_int rfl) ?_ | refine cx_p rfl (pv_move rfl) ?_
    first | refine cx_p rfl (pv_ixs1z rfl rfl (by first | omega | exact Nat.le_of_ble_eq_true rfl | (simp; done) | (simp; omega))) ?_ | refine cx_p rfl (pv_ixs1 rfl rfl (by first | omega | exact Nat.le_of_ble_eq_true rfl | (simp; done) | (simp; omega))) ?_
    refine cx_load_sl (j := i) rfl rfl ha.rd hB (getM (f := u8b) hB) ?_
    first | refine cx_p rfl (pv_move_slice rfl) ?_ | refine cx_p rfl (pv_move rfl) ?_
    first | refine cx_p rfl (pv_move_int rfl) ?_ | refine cx_p rfl (pv_move rfl) ?_
    first | refine cx_p rfl (pv_ixs1z rfl rfl (by first | omega | exact Nat.le_of_ble_eq_true rfl | (simp; done) | (simp; omega))) ?_ | refine cx_p rfl (pv_ixs1 rfl rfl (by first | omega | exact Nat.le_of_ble_eq_true rfl | (simp; done) | (simp; omega))) ?_
    refine cx_load_sl (j := i) rfl rfl hb.rd hib (getM (f := u8b) hib) ?_
    refine cx_q rfl (pv_neq_u8 rfl rfl) ?_
    refine cx_nil ?_
    repeat (first|refine zA ?_|refine zB ?_|refine zC ?_|refine zD ?_|refine zE ?_|refine zF ?_|refine zG ?_|refine zH ?_|refine zI ?_|refine zJ ?_|refine zK ?_|refine zL ?_|refine zM rfl ?_|refine zN ?_|refine zO ?_|refine zP ?_|refine zQ ?_)
    refine x_cond_p rfl (fun hB2 => ?_) (fun hB2 => ?_)
    · repeat (first|refine zA ?_|refine zB ?_|refine zC ?_|refine zD ?_|refine zE ?_|refine zF ?_|refine zG ?_|refine zH ?_|refine zI ?_|refine zJ ?_|refine zK ?_|refine zL ?_|refine zM rfl ?_|refine zN ?_|refine zO ?_|refine zP ?_|refine zQ ?_)
      refine x_reg ?_
      first | refine x_pv (pv_assign_bool rfl) ?_ | refine x_pv (pv_assign rfl) ?_
      refine x_nil ?_
      repeat (first|refine zA ?_|refine zB ?_|refine zC ?_|refine zD ?_|refine zE ?_|refine zF ?_|refine zG ?_|refine zH ?_|refine zI ?_|refine zJ ?_|refine zK ?_|refine zL ?_|refine zM rfl ?_|refine zN ?_|refine zO ?_|refine zP ?_|refine zQ ?_)
      refine rx1 (rx_bool rfl (rx_nil)) ?_
      refine ⟨_, ⟨?_, rfl⟩, by exact Imp.arr (by repeat (first | exact Arr.nil | exact Arr.stop | refine Arr.cons (by repeat constructor) ?_ | refine Arr.skip ?_))⟩
      rw [decide_eq_false]
      rintro rfl
      exact hB2 rfl
    · repeat (first|refine zA ?_|refine zB ?_|refine zC ?_|refine zD ?_|refine zE ?_|refine zF ?_|refine zG ?_|refine zH ?_|refine zI ?_|refine zJ ?_|refine zK ?_|refine zL ?_|refine zM rfl ?_|refine zN ?_|refine zO ?_|refine zP ?_|refine zQ ?_)
      refine x_reg ?_
      first | refine x_pv (pv_move_int rfl) ?_ | refine x_pv (pv_move rfl) ?_
      first | refine x_pv (pv_addn (b := 1) rfl rfl (by first | omega | exact Nat.le_of_ble_eq_true rfl | (simp; done) | (simp; omega) | decide)) ?_ | refine x_pv (pv_add_i rfl rfl (by first | omega | exact Nat.le_of_ble_eq_true rfl | (simp; done) | (simp; omega) | decide)) ?_
      first | refine x_pv (pv_assign_int rfl) ?_ | refine x_pv (pv_assign rfl) ?_
      refine x_nil ?_
      repeat (first|refine zA ?_|refine zB ?_|refine zC ?_|refine zD ?_|refine zE ?_|refine zF ?_|refine zG ?_|refine zH ?_|refine zI ?_|refine zJ ?_|refine zK ?_|refine zL ?_|refine zM rfl ?_|refine zN ?_|refine zO ?_|refine zP ?_|refine zQ ?_)
      have hB2 : a[i] = b[i] := by simpa using hB2
      exact x_loop_n (i + 1) (by first | omega | (dsimp only; omega) | (simp only []; omega)) ⟨by omega, by rw [List.take_succ_eq_append_getElem hB, List.take_succ_eq_append_getElem hib, he, hB2]⟩ (by exact Imp.arr (by repeat (first | exact Arr.nil | exact Arr.stop | refine Arr.cons (by repeat constructor) ?_ | refine Arr.skip ?_))) ⟨rfl, trivial⟩
  · have hie : i = a.length := by omega
    subst hie
    rw [List.take_length, hlen, List.take_length] at he
    repeat (first|refine zA ?_|refine zB ?_|refine zC ?_|refine zD ?_|refine zE ?_|refine zF ?_|refine zG ?_|refine zH ?_|refine zI ?_|refine zJ ?_|refine zK ?_|refine zL ?_|refine zM rfl ?_|refine zN ?_|refine zO ?_|refine zP ?_|refine zQ ?_)
    refine x_reg ?_
    first | refine x_pv (pv_assign_bool rfl) ?_ | refine x_pv (pv_assign rfl) ?_
    refine x_nil ?_
    repeat (first|refine zA ?_|refine zB ?_|refine zC ?_|refine zD ?_|refine zE ?_|refine zF ?_|refine zG ?_|refine zH ?_|refine zI ?_|refine zJ ?_|refine zK ?_|refine zL ?_|refine zM rfl ?_|refine zN ?_|refine zO ?_|refine zP ?_|refine zQ ?_)
    refine rx1 (rx_bool rfl (rx_nil)) ?_
    exact ⟨_, ⟨by rw [decide_eq_true he], rfl⟩, by exact Imp.arr (by repeat (first | exact Arr.nil | exact Arr.stop | refine Arr.cons (by repeat constructor) ?_ | refine Arr.skip ?_))⟩
theorem copyBytes_x {L : List Asrt} {v : Value} {l : List Byte} (h : Bs L v l) (hl : l.length ≤ 140737488355328) : Con Try.prog 23 [v] L (fun r M => ∃ a c, r = .slice a l.length c ∧ M = own 5 1 r l.length (l.map u8b) :: L) := by
  refine Con.get (fun w0 w F H => h.sh _ _ _ H) ?_
  rintro ⟨aa, ac, rfl, hac, hacm⟩
  refine fn_x Try.func23 rfl rfl rfl Try.mixed (by kernel_rfl) ?_
  intro w0
  repeat (first|refine zA ?_|refine zB ?_|refine zC ?_|refine zD ?_|refine zE ?_|refine zF ?_|refine zG ?_|refine zH ?_|refine zI ?_|refine zJ ?_|refine zK ?_|refine zL ?_|refine zM rfl ?_|refine zN ?_|refine zO ?_|refine zP ?_|refine zQ ?_)
  refine x_reg ?_
  first | refine x_pv (pv_assign_slice rfl) ?_ | refine x_pv (pv_assign rfl) ?_
  refine x_nil ?_
  repeat (first|refine zA ?_|refine zB ?_|refine zC ?_|refine zD ?_|refine zE ?_|refine zF ?_|refine zG ?_|refine zH ?_|refine zI ?_|refine zJ ?_|refine zK ?_|refine zL ?_|refine zM rfl ?_|refine zN ?_|refine zO ?_|refine zP ?_|refine zQ ?_)
  refine x_reg ?_
  first | refine x_pv (pv_move_slice rfl) ?_ | refine x_pv (pv_move rfl) ?_
  first | refine x_pv (pv_len rfl) ?_ | refine x_pv (pv_len_arr) ?_ | refine x_pv (pv_len_str rfl) ?_
  refine x_mk1 (f := u8b) (a := 0#8) (len := 0) rfl rfl rfl (by first | omega | exact Nat.le_of_ble_eq_true rfl | (simp; done) | (simp; omega) | decide) (by first | omega | exact Nat.le_of_ble_eq_true rfl | (simp; done) | (simp; omega) | decide) (by first | omega | exact Nat.le_of_ble_eq_true rfl | (simp; done) | (simp; omega) | decide) ?_; intro b7
  first | refine x_pv (pv_assign_slice rfl) ?_ | refine x_pv (pv_assign rfl) ?_
  refine x_nil ?_
  repeat (first|refine zA ?_|refine zB ?_|refine zC ?_|refine zD ?_|refine zE ?_|refine zF ?_|refine zG ?_|refine zH ?_|refine zI ?_|refine zJ ?_|refine zK ?_|refine zL ?_|refine zM rfl ?_|refine zN ?_|refine zO ?_|refine zP ?_|refine zQ ?_)
  refine x_reg ?_
  first | refine x_pv (pv_assign_int rfl) ?_ | refine x_pv (pv_assign rfl) ?_
  refine x_nil ?_
  repeat (first|refine zA ?_|refine zB ?_|refine zC ?_|refine zD ?_|refine zE ?_|refine zF ?_|refine zG ?_|refine zH ?_|refine zI ?_|refine zJ ?_|refine zK ?_|refine zL ?_|refine zM rfl ?_|refine zN ?_|refine zO ?_|refine zP ?_|refine zQ ?_)
  refine x_loop [(3, 4), (8, 20)] (by kernel_rfl) (fun s : Nat × Option Addr × Nat × Nat => s.1 ≤ l.length ∧ s.2.2.2 = s.1) (fun s => own 5 1 (.slice s.2.1 s.1 s.2.2.1) s.1 ((l.take s.1).map u8b) :: L)
    (fun s => [(4, .int .i64 (s.1 : Int)), (3, .slice s.2.1 s.2.2.2 s.2.2.1)]) (fun s => l.length - s.1) (0, some ⟨b7, 0, none⟩, l.length, 0) ⟨Nat.zero_le _, rfl⟩ (Imp.own_mk (Nat.zero_le _) (by dsimp only; omega) (by simp) (by simp)) ⟨rfl, rfl, trivial⟩ ?_
  rintro ⟨i, a, c, n⟩ u ⟨hi, hn⟩
  dsimp only at hi hn ⊢
  subst hn
  repeat (first|refine zA ?_|refine zB ?_|refine zC ?_|refine zD ?_|refine zE ?_|refine zF ?_|refine zG ?_|refine zH ?_|refine zI ?_|refine zJ ?_|refine zK ?_|refine zL ?_|refine zM rfl ?_|refine zN ?_|refine zO ?_|refine zP ?_|refine zQ ?_)
  refine x_reg ?_
  first | refine x_pv (pv_move_int rfl) ?_ | refine x_pv (pv_move rfl) ?_
  first | refine x_pv (pv_move_slice rfl) ?_ | refine x_pv (pv_move rfl) ?_
  first | refine x_pv (pv_len rfl) ?_ | refine x_pv (pv_len_arr) ?_ | refine x_pv (pv_len_str rfl) ?_
  first | refine x_pv (pv_lssn rfl rfl) ?_ | refine x_pv (pv_lss rfl rfl) ?_
  refine x_nil ?_
  repeat (first|refine zA ?_|refine zB ?_|refine zC ?_|refine zD ?_|refine zE ?_|refine zF ?_|refine zG ?_|refine zH ?_|refine zI ?_|refine zJ ?_|refine zK ?_|refine zL ?_|refine zM rfl ?_|refine zN ?_|refine zO ?_|refine zP ?_|refine zQ ?_)
  refine x_cond_p rfl (fun hB => ?_) (fun hB => ?_)
  · refine x_get (fun F w H => (h.imp (by exact Imp.arr (by repeat (first | exact Arr.nil | exact Arr.stop | refine Arr.cons (by repeat constructor) ?_ | refine Arr.skip ?_)))).some (by omega) H) ?_
    rintro ⟨a1, a2, rfl⟩
    repeat (first|refine zA ?_|refine zB ?_|refine zC ?_|refine zD ?_|refine zE ?_|refine zF ?_|refine zG ?_|refine zH ?_|refine zI ?_|refine zJ ?_|refine zK ?_|refine zL ?_|refine zM rfl ?_|refine zN ?_|refine zO ?_|refine zP ?_|refine zQ ?_)
    refine x_reg ?_
    first | refine x_pv (pv_move_slice rfl) ?_ | refine x_pv (pv_move rfl) ?_
    first | refine x_pv (pv_move_slice rfl) ?_ | refine x_pv (pv_move rfl) ?_
    first | refine x_pv (pv_move_int rfl) ?_ | refine x_pv (pv_move rfl) ?_
    first | refine x_pv (pv_ixs1z rfl rfl (by first | omega | exact Nat.le_of_ble_eq_true rfl | (simp; done) | (simp; omega))) ?_ | refine x_pv (pv_ixs1 rfl rfl (by first | omega | exact Nat.le_of_ble_eq_true rfl | (simp; done) | (simp; omega))) ?_
    refine x_load_sl (j := n) rfl (h.rd.imp (by exact Imp.arr (by repeat (first | exact Arr.nil | exact Arr.stop | refine Arr.cons (by repeat constructor) ?_ | refine Arr.skip ?_)))) hB (getM (f := u8b) hB) ?_
    refine x_buildSlice (cs := #[.int .u8 _]) (by omega) (by omega) rfl ?_; intro b19
    refine x_append rfl rfl (by repeat constructor) (Rd.cl (xs := [u8b l[n]]) (by repeat constructor) rfl (by first | rfl | omega | (rw [szL]; omega) | exact Nat.le_of_ble_eq_true rfl | (simp; done) | (simp; omega)) rfl) (by first | rfl | exact oneM_u8 _ | exact oneL_u8 _ | (simp [oneC]; done)) (by omega) (by first | omega | exact Nat.le_of_ble_eq_true rfl | (simp; done) | (simp; omega) | decide) ?_; intro a2 c2
    first | refine x_pv (pv_assign_slice rfl) ?_ | refine x_pv (pv_assign rfl) ?_
    refine x_nil ?_
    repeat (first|refine zA ?_|refine zB ?_|refine zC ?_|refine zD ?_|refine zE ?_|refine zF ?_|refine zG ?_|refine zH ?_|refine zI ?_|refine zJ ?_|refine zK ?_|refine zL ?_|refine zM rfl ?_|refine zN ?_|refine zO ?_|refine zP ?_|refine zQ ?_)
    refine x_reg ?_
    first | refine x_pv (pv_move_int rfl) ?_ | refine x_pv (pv_move rfl) ?_
    first | refine x_pv (pv_addn (b := 1) rfl rfl (by first | omega | exact Nat.le_of_ble_eq_true rfl | (simp; done) | (simp; omega) | decide)) ?_ | refine x_pv (pv_add_i rfl rfl (by first | omega | exact Nat.le_of_ble_eq_true rfl | (simp; done) | (simp; omega) | decide)) ?_
    first | refine x_pv (pv_assign_int rfl) ?_ | refine x_pv (pv_assign rfl) ?_
    refine x_nil ?_
    repeat (first|refine zA ?_|refine zB ?_|refine zC ?_|refine zD ?_|refine zE ?_|refine zF ?_|refine zG ?_|refine zH ?_|refine zI ?_|refine zJ ?_|refine zK ?_|refine zL ?_|refine zM rfl ?_|refine zN ?_|refine zO ?_|refine zP ?_|refine zQ ?_)
    refine x_loop_n (n + 1, a2, c2, n + 1) (by first | omega | (dsimp only; omega) | (simp only []; omega)) ⟨by dsimp only; omega, rfl⟩ ?_ ⟨rfl, rfl, trivial⟩
    dsimp only
    rw [List.take_succ_eq_append_getElem hB, List.map_append]
    exact Imp.arr (by repeat (first | exact Arr.nil | exact Arr.stop | refine Arr.cons (by repeat constructor) ?_ | refine Arr.skip ?_))
  · have hie : n = l.length := by omega
    subst hie
    rw [List.take_length]
    repeat (first|refine zA ?_|refine zB ?_|refine zC ?_|refine zD ?_|refine zE ?_|refine zF ?_|refine zG ?_|refine zH ?_|refine zI ?_|refine zJ ?_|refine zK ?_|refine zL ?_|refine zM rfl ?_|refine zN ?_|refine zO ?_|refine zP ?_|refine zQ ?_)
    refine x_reg ?_
    first | refine x_pv (pv_move_slice rfl) ?_ | refine x_pv (pv_move rfl) ?_
    first | refine x_pv (pv_assign_slice rfl) ?_ | refine x_pv (pv_assign rfl) ?_
    refine x_nil ?_
    repeat (first|refine zA ?_|refine zB ?_|refine zC ?_|refine zD ?_|refine zE ?_|refine zF ?_|refine zG ?_|refine zH ?_|refine zI ?_|refine zJ ?_|refine zK ?_|refine zL ?_|refine zM rfl ?_|refine zN ?_|refine zO ?_|refine zP ?_|refine zQ ?_)
    refine rx1 (rx_slice rfl (rx_nil)) ?_
    exact ⟨_, ⟨a, c, rfl, rfl⟩, by exact Imp.arr (by repeat (first | exact Arr.nil | exact Arr.stop | refine Arr.cons (by repeat constructor) ?_ | refine Arr.skip ?_))⟩
def joinB (ps : List (Value × List Byte)) : List Byte := (ps.map (·.2)).flatten
theorem joinB_succ (ps : List (Value × List Byte)) (i : Nat) (h : i < ps.length) : joinB (ps.take (i + 1)) = joinB (ps.take i) ++ ps[i].2 := by
  rw [List.take_succ_eq_append_getElem h]; simp only [joinB, List.map_append, List.flatten_append, List.map_cons, List.map_nil, List.flatten_cons, List.flatten_nil, List.append_nil]
theorem joinB_le (ps : List (Value × List Byte)) (i : Nat) : (joinB (ps.take i)).length ≤ (joinB ps).length := by
  have e : joinB ps = joinB (ps.take i) ++ joinB (ps.drop i) := by
    simp only [joinB, ← List.flatten_append, ← List.map_append, List.take_append_drop]
  rw [e]; simp
theorem join_x {L : List Asrt} {v : Value} {ps : List (Value × List Byte)} (h : Rs L v ps) (hl : (joinB ps).length ≤ 140737488355328) : Con Try.prog 15 [v] L (fun r M => ∃ a c, r = .slice a (joinB ps).length c ∧ M = own 5 1 r (joinB ps).length ((joinB ps).map u8b) :: L) := by
  refine Con.get (fun w0 w F H => h.sh _ _ _ H) ?_
  rintro ⟨aa, ac, rfl, hac, hacm⟩
  refine fn_x Try.func15 rfl rfl rfl Try.mixed (by kernel_rfl) ?_
  intro w0
  repeat (first|refine zA ?_|refine zB ?_|refine zC ?_|refine zD ?_|refine zE ?_|refine zF ?_|refine zG ?_|refine zH ?_|refine zI ?_|refine zJ ?_|refine zK ?_|refine zL ?_|refine zM rfl ?_|refine zN ?_|refine zO ?_|refine zP ?_|refine zQ ?_)
  refine x_reg ?_
  first | refine x_pv (pv_assign_slice rfl) ?_ | refine x_pv (pv_assign rfl) ?_
  refine x_nil ?_
  repeat (first|refine zA ?_|refine zB ?_|refine zC ?_|refine zD ?_|refine zE ?_|refine zF ?_|refine zG ?_|refine zH ?_|refine zI ?_|refine zJ ?_|refine zK ?_|refine zL ?_|refine zM rfl ?_|refine zN ?_|refine zO ?_|refine zP ?_|refine zQ ?_)
  refine x_reg ?_
  first | refine x_pv (pv_assign_slice rfl) ?_ | refine x_pv (pv_assign rfl) ?_
  refine x_nil ?_
  repeat (first|refine zA ?_|refine zB ?_|refine zC ?_|refine zD ?_|refine zE ?_|refine zF ?_|refine zG ?_|refine zH ?_|refine zI ?_|refine zJ ?_|refine zK ?_|refine zL ?_|refine zM rfl ?_|refine zN ?_|refine zO ?_|refine zP ?_|refine zQ ?_)
  refine x_reg ?_
  first | refine x_pv (pv_assign_int rfl) ?_ | refine x_pv (pv_assign rfl) ?_
  refine x_nil ?_
  repeat (first|refine zA ?_|refine zB ?_|refine zC ?_|refine zD ?_|refine zE ?_|refine zF ?_|refine zG ?_|refine zH ?_|refine zI ?_|refine zJ ?_|refine zK ?_|refine zL ?_|refine zM rfl ?_|refine zN ?_|refine zO ?_|refine zP ?_|refine zQ ?_)
  refine x_loop [(3, 30)] (by kernel_rfl) (fun s : Nat × Option Addr × Nat × Nat => s.1 ≤ ps.length ∧ s.2.2.2 = (joinB (ps.take s.1)).length) (fun s => own 5 1 (.slice s.2.1 s.2.2.2 s.2.2.1) s.2.2.2 ((joinB (ps.take s.1)).map u8b) :: L)
    (fun s => [(4, .int .i64 (s.1 : Int)), (3, .slice s.2.1 s.2.2.2 s.2.2.1)]) (fun s => ps.length - s.1) (0, none, 0, 0) ⟨Nat.zero_le _, rfl⟩ Imp.own_nil ⟨rfl, rfl, trivial⟩ ?_
  rintro ⟨i, a, c, n⟩ u ⟨hi, hn⟩
  dsimp only at hi hn ⊢
  have hnl : n ≤ (joinB ps).length := by rw [hn]; exact joinB_le ps i
  repeat (first|refine zA ?_|refine zB ?_|refine zC ?_|refine zD ?_|refine zE ?_|refine zF ?_|refine zG ?_|refine zH ?_|refine zI ?_|refine zJ ?_|refine zK ?_|refine zL ?_|refine zM rfl ?_|refine zN ?_|refine zO ?_|refine zP ?_|refine zQ ?_)
  refine x_reg ?_
  first | refine x_pv (pv_move_int rfl) ?_ | refine x_pv (pv_move rfl) ?_
  first | refine x_pv (pv_move_slice rfl) ?_ | refine x_pv (pv_move rfl) ?_
  first | refine x_pv (pv_len rfl) ?_ | refine x_pv (pv_len_arr) ?_ | refine x_pv (pv_len_str rfl) ?_
  first | refine x_pv (pv_lssn rfl rfl) ?_ | refine x_pv (pv_lss rfl rfl) ?_
  refine x_nil ?_
  repeat (first|refine zA ?_|refine zB ?_|refine zC ?_|refine zD ?_|refine zE ?_|refine zF ?_|refine zG ?_|refine zH ?_|refine zI ?_|refine zJ ?_|refine zK ?_|refine zL ?_|refine zM rfl ?_|refine zN ?_|refine zO ?_|refine zP ?_|refine zQ ?_)
  refine x_cond_p rfl (fun hB => ?_) (fun hB => ?_)
  · have hel := h.el _ (List.getElem_mem hB)
    refine x_get (fun F w H => (h.rd.imp (by exact Imp.arr (by repeat (first | exact Arr.nil | exact Arr.stop | refine Arr.cons (by repeat constructor) ?_ | refine Arr.skip ?_)))).someAt (by omega) H) ?_
    rintro ⟨a1, a2, rfl⟩
    refine x_get (fun F w H => (hel.imp (by exact Imp.arr (by repeat (first | exact Arr.nil | exact Arr.stop | refine Arr.cons (by repeat constructor) ?_ | refine Arr.skip ?_)))).sh _ _ _ H) ?_
    rintro ⟨ea, ec, hev, hecl, hecm⟩
    generalize hrow : ps[i].2 = row at hel hev hecl
    have htot : (joinB (ps.take i)).length + row.length ≤ (joinB ps).length := by
      have h1 := joinB_le ps (i + 1)
      rw [joinB_succ ps i hB, List.length_append, hrow] at h1; exact h1
    have hgi : (ps.map (·.1))[i]? = some (.slice ea row.length ec) := by simp [hB, hev]
    repeat (first|refine zA ?_|refine zB ?_|refine zC ?_|refine zD ?_|refine zE ?_|refine zF ?_|refine zG ?_|refine zH ?_|refine zI ?_|refine zJ ?_|refine zK ?_|refine zL ?_|refine zM rfl ?_|refine zN ?_|refine zO ?_|refine zP ?_|refine zQ ?_)
    refine x_reg ?_
    first | refine x_pv (pv_assign_int rfl) ?_ | refine x_pv (pv_assign rfl) ?_
    refine x_nil ?_
    repeat (first|refine zA ?_|refine zB ?_|refine zC ?_|refine zD ?_|refine zE ?_|refine zF ?_|refine zG ?_|refine zH ?_|refine zI ?_|refine zJ ?_|refine zK ?_|refine zL ?_|refine zM rfl ?_|refine zN ?_|refine zO ?_|refine zP ?_|refine zQ ?_)
    refine x_loop [(3, 3), (5, 5), (12, 30)] (by kernel_rfl) (fun s : Nat × Option Addr × Nat × Nat => s.1 ≤ row.length ∧ s.2.2.2 = n + s.1) (fun s => own 5 1 (.slice s.2.1 s.2.2.2 s.2.2.1) s.2.2.2 ((joinB (ps.take i) ++ row.take s.1).map u8b) :: L)
      (fun s => [(5, .int .i64 (s.1 : Int)), (3, .slice s.2.1 s.2.2.2 s.2.2.1)]) (fun s => row.length - s.1) (0, a, c, n) ⟨Nat.zero_le _, rfl⟩ (by dsimp only; rw [List.take_zero, List.append_nil]; exact Imp.refl _) ⟨rfl, rfl, trivial⟩ ?_
    rintro ⟨k, a', c', n'⟩ u' ⟨hk, hn'⟩
    dsimp only at hk hn' ⊢
    repeat (first|refine zA ?_|refine zB ?_|refine zC ?_|refine zD ?_|refine zE ?_|refine zF ?_|refine zG ?_|refine zH ?_|refine zI ?_|refine zJ ?_|refine zK ?_|refine zL ?_|refine zM rfl ?_|refine zN ?_|refine zO ?_|refine zP ?_|refine zQ ?_)
    refine x_reg ?_
    first | refine x_pv (pv_move_int rfl) ?_ | refine x_pv (pv_move rfl) ?_
    first | refine x_pv (pv_move_slice rfl) ?_ | refine x_pv (pv_move rfl) ?_
    first | refine x_pv (pv_move_int rfl) ?_ | refine x_pv (pv_move rfl) ?_
    first | refine x_pv (pv_ixs1z rfl rfl (by first | omega | exact Nat.le_of_ble_eq_true rfl | (simp; done) | (simp; omega))) ?_ | refine x_pv (pv_ixs1 rfl rfl (by first | omega | exact Nat.le_of_ble_eq_true rfl | (simp; done) | (simp; omega))) ?_
    refine x_load_sl (j := i) rfl (h.rd.imp (by exact Imp.arr (by repeat (first | exact Arr.nil | exact Arr.stop | refine Arr.cons (by repeat constructor) ?_ | refine Arr.skip ?_)))) hB hgi ?_
    first | refine x_pv (pv_len rfl) ?_ | refine x_pv (pv_len_arr) ?_ | refine x_pv (pv_len_str rfl) ?_
    first | refine x_pv (pv_lssn rfl rfl) ?_ | refine x_pv (pv_lss rfl rfl) ?_
    refine x_nil ?_
    repeat (first|refine zA ?_|refine zB ?_|refine zC ?_|refine zD ?_|refine zE ?_|refine zF ?_|refine zG ?_|refine zH ?_|refine zI ?_|refine zJ ?_|refine zK ?_|refine zL ?_|refine zM rfl ?_|refine zN ?_|refine zO ?_|refine zP ?_|refine zQ ?_)
    refine x_cond_p rfl (fun hK => ?_) (fun hK => ?_)
    · refine x_get (fun F w H => (by rw [hev] at hel; exact (hel.imp (by exact Imp.arr (by repeat (first | exact Arr.nil | exact Arr.stop | refine Arr.cons (by repeat constructor) ?_ | refine Arr.skip ?_)))).some (by omega) H)) ?_
      rintro ⟨e1, e2, rfl⟩
      rw [hev] at hel
      repeat (first|refine zA ?_|refine zB ?_|refine zC ?_|refine zD ?_|refine zE ?_|refine zF ?_|refine zG ?_|refine zH ?_|refine zI ?_|refine zJ ?_|refine zK ?_|refine zL ?_|refine zM rfl ?_|refine zN ?_|refine zO ?_|refine zP ?_|refine zQ ?_)
      refine x_reg ?_
      first | refine x_pv (pv_move_slice rfl) ?_ | refine x_pv (pv_move rfl) ?_
      first | refine x_pv (pv_move_slice rfl) ?_ | refine x_pv (pv_move rfl) ?_
      first | refine x_pv (pv_move_int rfl) ?_ | refine x_pv (pv_move rfl) ?_
      first | refine x_pv (pv_ixs1z rfl rfl (by first | omega | exact Nat.le_of_ble_eq_true rfl | (simp; done) | (simp; omega))) ?_ | refine x_pv (pv_ixs1 rfl rfl (by first | omega | exact Nat.le_of_ble_eq_true rfl | (simp; done) | (simp; omega))) ?_
      refine x_load_sl (j := i) rfl (h.rd.imp (by exact Imp.arr (by repeat (first | exact Arr.nil | exact Arr.stop | refine Arr.cons (by repeat constructor) ?_ | refine Arr.skip ?_)))) hB hgi ?_
      first | refine x_pv (pv_move_int rfl) ?_ | refine x_pv (pv_move rfl) ?_
      first | refine x_pv (pv_ixs1z rfl rfl (by first | omega | exact Nat.le_of_ble_eq_true rfl | (simp; done) | (simp; omega))) ?_ | refine x_pv (pv_ixs1 rfl rfl (by first | omega | exact Nat.le_of_ble_eq_true rfl | (simp; done) | (simp; omega))) ?_
      refine x_load_sl (j := k) rfl (hel.rd.imp (by exact Imp.arr (by repeat (first | exact Arr.nil | exact Arr.stop | refine Arr.cons (by repeat constructor) ?_ | refine Arr.skip ?_)))) hK (getM (f := u8b) hK) ?_
      refine x_buildSlice (cs := #[.int .u8 _]) (by omega) (by omega) rfl ?_; intro b29
      refine x_append rfl rfl (by repeat constructor) (Rd.cl (xs := [u8b row[k]]) (by repeat constructor) rfl (by first | rfl | omega | (rw [szL]; omega) | exact Nat.le_of_ble_eq_true rfl | (simp; done) | (simp; omega)) rfl) (by first | rfl | exact oneM_u8 _ | exact oneL_u8 _ | (simp [oneC]; done)) (by omega) (by first | omega | exact Nat.le_of_ble_eq_true rfl | (simp; done) | (simp; omega) | decide) ?_; intro a3 c3
      first | refine x_pv (pv_assign_slice rfl) ?_ | refine x_pv (pv_assign rfl) ?_
      refine x_nil ?_
      repeat (first|refine zA ?_|refine zB ?_|refine zC ?_|refine zD ?_|refine zE ?_|refine zF ?_|refine zG ?_|refine zH ?_|refine zI ?_|refine zJ ?_|refine zK ?_|refine zL ?_|refine zM rfl ?_|refine zN ?_|refine zO ?_|refine zP ?_|refine zQ ?_)
      refine x_reg ?_
      first | refine x_pv (pv_move_int rfl) ?_ | refine x_pv (pv_move rfl) ?_
      first | refine x_pv (pv_addn (b := 1) rfl rfl (by first | omega | exact Nat.le_of_ble_eq_true rfl | (simp; done) | (simp; omega) | decide)) ?_ | refine x_pv (pv_add_i rfl rfl (by first | omega | exact Nat.le_of_ble_eq_true rfl | (simp; done) | (simp; omega) | decide)) ?_
      first | refine x_pv (pv_assign_int rfl) ?_ | refine x_pv (pv_assign rfl) ?_
      refine x_nil ?_
      repeat (first|refine zA ?_|refine zB ?_|refine zC ?_|refine zD ?_|refine zE ?_|refine zF ?_|refine zG ?_|refine zH ?_|refine zI ?_|refine zJ ?_|refine zK ?_|refine zL ?_|refine zM rfl ?_|refine zN ?_|refine zO ?_|refine zP ?_|refine zQ ?_)
      refine x_loop_n (k + 1, a3, c3, n' + 1) (by first | omega | (dsimp only; omega) | (simp only []; omega)) ⟨by dsimp only; omega, by dsimp only; omega⟩ ?_ ⟨rfl, rfl, trivial⟩
      dsimp only
      rw [app_take_succ _ hK]
      exact Imp.arr (by repeat (first | exact Arr.nil | exact Arr.stop | refine Arr.cons (by repeat constructor) ?_ | refine Arr.skip ?_))
    · have hke : k = row.length := by omega
      subst hke
      rw [List.take_length]
      repeat (first|refine zA ?_|refine zB ?_|refine zC ?_|refine zD ?_|refine zE ?_|refine zF ?_|refine zG ?_|refine zH ?_|refine zI ?_|refine zJ ?_|refine zK ?_|refine zL ?_|refine zM rfl ?_|refine zN ?_|refine zO ?_|refine zP ?_|refine zQ ?_)
      refine x_reg ?_
      first | refine x_pv (pv_move_int rfl) ?_ | refine x_pv (pv_move rfl) ?_
      first | refine x_pv (pv_addn (b := 1) rfl rfl (by first | omega | exact Nat.le_of_ble_eq_true rfl | (simp; done) | (simp; omega) | decide)) ?_ | refine x_pv (pv_add_i rfl rfl (by first | omega | exact Nat.le_of_ble_eq_true rfl | (simp; done) | (simp; omega) | decide)) ?_
      first | refine x_pv (pv_assign_int rfl) ?_ | refine x_pv (pv_assign rfl) ?_
      refine x_nil ?_
      repeat (first|refine zA ?_|refine zB ?_|refine zC ?_|refine zD ?_|refine zE ?_|refine zF ?_|refine zG ?_|refine zH ?_|refine zI ?_|refine zJ ?_|refine zK ?_|refine zL ?_|refine zM rfl ?_|refine zN ?_|refine zO ?_|refine zP ?_|refine zQ ?_)
      refine x_loop_n (i + 1, a', c', n') (by first | omega | (dsimp only; omega) | (simp only []; omega)) ⟨by dsimp only; omega, by dsimp only; rw [joinB_succ ps i hB, List.length_append, hrow]; omega⟩ ?_ ⟨rfl, rfl, trivial⟩
      dsimp only
      rw [joinB_succ ps i hB, hrow]
      exact Imp.arr (by repeat (first | exact Arr.nil | exact Arr.stop | refine Arr.cons (by repeat constructor) ?_ | refine Arr.skip ?_))
  · have hie : i = ps.length := by omega
    subst hie
    rw [List.take_length] at hn
    rw [List.take_length]
    subst hn
    repeat (first|refine zA ?_|refine zB ?_|refine zC ?_|refine zD ?_|refine zE ?_|refine zF ?_|refine zG ?_|refine zH ?_|refine zI ?_|refine zJ ?_|refine zK ?_|refine zL ?_|refine zM rfl ?_|refine zN ?_|refine zO ?_|refine zP ?_|refine zQ ?_)
    refine x_reg ?_
    first | refine x_pv (pv_move_slice rfl) ?_ | refine x_pv (pv_move rfl) ?_
    first | refine x_pv (pv_assign_slice rfl) ?_ | refine x_pv (pv_assign rfl) ?_
    refine x_nil ?_
    repeat (first|refine zA ?_|refine zB ?_|refine zC ?_|refine zD ?_|refine zE ?_|refine zF ?_|refine zG ?_|refine zH ?_|refine zI ?_|refine zJ ?_|refine zK ?_|refine zL ?_|refine zM rfl ?_|refine zN ?_|refine zO ?_|refine zP ?_|refine zQ ?_)
    refine rx1 (rx_slice rfl (rx_nil)) ?_
    exact ⟨_, ⟨a, c, rfl, rfl⟩, by exact Imp.arr (by repeat (first | exact Arr.nil | exact Arr.stop | refine Arr.cons (by repeat constructor) ?_ | refine Arr.skip ?_))⟩
theorem two_x {L : List Asrt} {va vb : Value} {a b : List Byte} (ha : Bs L va a) (hb : Bs L vb b) (hl : (a ++ b).length ≤ 140737488355328) : Con Try.prog 33 [va, vb] L (fun r M => ∃ x c, r = .slice x (a ++ b).length c ∧ M = own 5 1 r (a ++ b).length ((a ++ b).map u8b) :: L) := by
  refine Con.get (fun w0 w F H => ha.sh _ _ _ H) ?_
  rintro ⟨aa, ac, rfl, hac, hacm⟩
  refine Con.get (fun w0 w F H => hb.sh _ _ _ H) ?_
  rintro ⟨ba, bc, rfl, hbc, hbcm⟩
  have e : joinB [(.slice aa a.length ac, a), (.slice ba b.length bc, b)] = a ++ b := by simp [joinB]
  refine fn_x Try.func33 rfl rfl rfl Try.mixed (by kernel_rfl) ?_
  intro w0
  repeat (first|refine zA ?_|refine zB ?_|refine zC ?_|refine zD ?_|refine zE ?_|refine zF ?_|refine zG ?_|refine zH ?_|refine zI ?_|refine zJ ?_|refine zK ?_|refine zL ?_|refine zM rfl ?_|refine zN ?_|refine zO ?_|refine zP ?_|refine zQ ?_)
  refine x_reg ?_
  first | refine x_pv (pv_assign_slice rfl) ?_ | refine x_pv (pv_assign rfl) ?_
  refine x_nil ?_
  repeat (first|refine zA ?_|refine zB ?_|refine zC ?_|refine zD ?_|refine zE ?_|refine zF ?_|refine zG ?_|refine zH ?_|refine zI ?_|refine zJ ?_|refine zK ?_|refine zL ?_|refine zM rfl ?_|refine zN ?_|refine zO ?_|refine zP ?_|refine zQ ?_)
  refine x_reg ?_
  first | refine x_pv (pv_move_slice rfl) ?_ | refine x_pv (pv_move rfl) ?_
  first | refine x_pv (pv_move_slice rfl) ?_ | refine x_pv (pv_move rfl) ?_
  refine x_buildSlice (cs := #[.slice _ _ _, .slice _ _ _]) (by omega) (by omega) rfl ?_; intro b7
  refine x_call rfl (by kernel_rfl) (join_x (L := cl b7 #[.slice aa a.length ac, .slice ba b.length bc] 31 :: L) (ps := [(.slice aa a.length ac, a), (.slice ba b.length bc, b)]) (Rs.cl (o := 0) (by repeat constructor) (by simp) rfl (by simp) (by simp) (by intro x hx; simp only [List.mem_cons, List.not_mem_nil, or_false] at hx; rcases hx with rfl | rfl; exact ha.imp Imp.tail; exact hb.imp Imp.tail)) (by rw [e]; exact hl)) rfl (by repeat (first | exact Take.nil | exact Take.all | (apply Take.cons; (next => repeat constructor; done)) | apply Take.skip)) ?_
  rintro _ _ ⟨x, c, rfl, rfl⟩
  refine xo_app (by repeat (first | exact App.nil | apply App.cons | (apply App.flip; first | exact App.nil | apply App.cons) | exact App.any)) ?_
  first | refine x_pv (pv_assign_slice rfl) ?_ | refine x_pv (pv_assign rfl) ?_
  refine x_nil ?_
  repeat (first|refine zA ?_|refine zB ?_|refine zC ?_|refine zD ?_|refine zE ?_|refine zF ?_|refine zG ?_|refine zH ?_|refine zI ?_|refine zJ ?_|refine zK ?_|refine zL ?_|refine zM rfl ?_|refine zN ?_|refine zO ?_|refine zP ?_|refine zQ ?_)
  rw [e]
  refine rx1 (rx_slice rfl (rx_nil)) ?_
  exact ⟨_, ⟨x, c, rfl, rfl⟩, by exact Imp.arr (by repeat (first | exact Arr.nil | exact Arr.stop | refine Arr.cons (by repeat constructor) ?_ | refine Arr.skip ?_))⟩
end Go.Sl
