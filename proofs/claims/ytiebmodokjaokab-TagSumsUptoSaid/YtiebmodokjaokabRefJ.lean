/- the document's answer for the code, in digits: part, high. -/
import Derived.Test.YtiebmodokjaokabRefI
set_option maxHeartbeats 4000000
set_option maxRecDepth 10000
set_option linter.unusedVariables false
set_option linter.unusedSimpArgs false
namespace Go.Sl
open Go Go.Proofs
attribute [local irreducible] cl pt own old pur ex all den denOps denS xOps xC cX CX xthen xblk xcut xloop retX resX Calls PV Rd Con
theorem high_step (l : List Nat) (i : Nat) (hi : 17 ≤ i) (hA : i < l.length) : valD (l.take (i + 1)) / 1361129467683753853853498429727072845824 = valD (l.take i) / 1361129467683753853853498429727072845824 + 256 ^ (i - 17) * (64 * l[i]) := by
  have p17 : (256 : Nat) ^ 17 = 1361129467683753853853498429727072845824 * 64 := by decide
  have e : 256 ^ i * l[i] = 1361129467683753853853498429727072845824 * (256 ^ (i - 17) * (64 * l[i])) := by
    have : 256 ^ i = 256 ^ 17 * 256 ^ (i - 17) := by rw [← Nat.pow_add]; congr 1; omega
    rw [this, p17]
    simp only [Nat.mul_assoc, Nat.mul_left_comm (64 : Nat)]
  rw [valD_take _ _ hA, e, Nat.add_mul_div_left _ _ (by omega)]
theorem high_16 (l : List Nat) (hA : 16 < l.length) (h : Dig l) : valD (l.take 17) / 1361129467683753853853498429727072845824 = l[16] / 4 := by
  have p16 : (256 : Nat) ^ 16 = 340282366920938463463374607431768211456 := by decide
  have hlt := valD_lt (l.take 16) (fun x hx => h x (List.mem_of_mem_take hx))
  have hlen : (l.take 16).length = 16 := by simp; omega
  rw [hlen, p16] at hlt
  rw [valD_take _ _ hA, p16]
  omega
theorem high_lo (l : List Nat) (i : Nat) (hi : i ≤ 16) (h : Dig l) : valD (l.take i) / 1361129467683753853853498429727072845824 = 0 := by
  have p16 : (256 : Nat) ^ 16 = 340282366920938463463374607431768211456 := by decide
  have hlt := valD_lt (l.take i) (fun x hx => h x (List.mem_of_mem_take hx))
  have hle : 256 ^ (l.take i).length ≤ 256 ^ 16 := Nat.pow_le_pow_right (by omega) (by simp; omega)
  rw [p16] at hle
  omega
theorem high_x {L : List Asrt} {a : Option Addr} {c : Nat} {l : List Nat} (h : Rd L 1 (.slice a l.length c) l.length (l.map nv)) (hl : l.length ≤ 4096) (hd0 : Dig l) :
    Con Try.prog 38 [.slice a l.length c, .bool true] L (fun r M => ∃ a2 c2 d, Dig d ∧ valD d = valD l / 1361129467683753853853498429727072845824 ∧ d.length = l.length - 16 ∧ r = .slice a2 d.length c2 ∧ M = own 3 1 r d.length (d.map nv) :: L) := by
  refine fn_x Try.func38 rfl rfl rfl Try.mixed (by kernel_rfl) ?_
  intro w0
  repeat (first|refine zA ?_|refine zB ?_|refine zC ?_|refine zD ?_|refine zE ?_|refine zF ?_|refine zG ?_|refine zH ?_|refine zI ?_|refine zJ ?_|refine zK ?_|refine zL ?_|refine zM rfl ?_|refine zN ?_|refine zO ?_|refine zP ?_|refine zQ ?_)
  refine x_reg ?_
  first | refine x_pv (pv_assign_slice rfl) ?_ | refine x_pv (pv_assign rfl) ?_
  refine x_nil ?_
  repeat (first|refine zA ?_|refine zB ?_|refine zC ?_|refine zD ?_|refine zE ?_|refine zF ?_|refine zG ?_|refine zH ?_|refine zI ?_|refine zJ ?_|refine zK ?_|refine zL ?_|refine zM rfl ?_|refine zN ?_|refine zO ?_|refine zP ?_|refine zQ ?_)
  refine x_reg ?_
  first | refine x_pv (pv_assign_slice rfl) ?_ | refine x_pv (pv_assign rfl) ?_
  refine x_nil ?_
  repeat (first|refine zA ?_|refine zB ?_|refine zC ?_|refine zD ?_|refine zE ?_|refine zF ?_|refine zG ?_|refine zH ?_|refine zI ?_|refine zJ ?_|refine zK ?_|refine zL ?_|refine zM rfl ?_|refine zN ?_|refine zO ?_|refine zP ?_|refine zQ ?_)
  refine x_reg ?_
  first | refine x_pv (pv_assign_int rfl) ?_ | refine x_pv (pv_assign rfl) ?_
  refine x_nil ?_
  repeat (first|refine zA ?_|refine zB ?_|refine zC ?_|refine zD ?_|refine zE ?_|refine zF ?_|refine zG ?_|refine zH ?_|refine zI ?_|refine zJ ?_|refine zK ?_|refine zL ?_|refine zM rfl ?_|refine zN ?_|refine zO ?_|refine zP ?_|refine zQ ?_)
  refine x_loop [(5, 85)] (by kernel_rfl) (fun s : Nat × Option Addr × Nat × List Nat => s.1 ≤ l.length ∧ Dig s.2.2.2 ∧ s.2.2.2.length = s.1 - 16 ∧ valD s.2.2.2 = valD (l.take s.1) / 1361129467683753853853498429727072845824 ∧ (∀ x, s.2.2.2.getLast? = some x → x ≤ 63))
    (fun s => own 3 1 (.slice s.2.1 s.2.2.2.length s.2.2.1) s.2.2.2.length (s.2.2.2.map nv) :: L)
    (fun s => [(6, .int .i64 (s.1 : Int)), (5, .slice s.2.1 s.2.2.2.length s.2.2.1)]) (fun s => l.length - s.1) (0, none, 0, []) ⟨Nat.zero_le _, by intro x hx; simp at hx, rfl, by simp [valD], by simp⟩ Imp.own_nil ⟨rfl, rfl, trivial⟩ ?_
  rintro ⟨i, da, dc, d⟩ u ⟨hi, hd, hdl, hdv, hlast⟩
  dsimp only at hi hd hdl hdv hlast ⊢
  repeat (first|refine zA ?_|refine zB ?_|refine zC ?_|refine zD ?_|refine zE ?_|refine zF ?_|refine zG ?_|refine zH ?_|refine zI ?_|refine zJ ?_|refine zK ?_|refine zL ?_|refine zM rfl ?_|refine zN ?_|refine zO ?_|refine zP ?_|refine zQ ?_)
  refine x_reg ?_
  first | refine x_pv (pv_move_int rfl) ?_ | refine x_pv (pv_move rfl) ?_
  first | refine x_pv (pv_move_slice rfl) ?_ | refine x_pv (pv_move rfl) ?_
  first | refine x_pv (pv_len rfl) ?_ | refine x_pv (pv_len_arr) ?_ | refine x_pv (pv_len_str rfl) ?_
  first | refine x_pv (pv_lssn rfl rfl) ?_ | refine x_pv (pv_lss rfl rfl) ?_
  refine x_nil ?_
  repeat (first|refine zA ?_|refine zB ?_|refine zC ?_|refine zD ?_|refine zE ?_|refine zF ?_|refine zG ?_|refine zH ?_|refine zI ?_|refine zJ ?_|refine zK ?_|refine zL ?_|refine zM rfl ?_|refine zN ?_|refine zO ?_|refine zP ?_|refine zQ ?_)
  refine x_cond_p rfl (fun hA => ?_) (fun hA => ?_)
  · refine x_get (fun F w H => (h.imp (by exact Imp.arr (by repeat (first | exact Arr.nil | exact Arr.stop | refine Arr.cons (by repeat constructor) ?_ | refine Arr.skip ?_)))).someAt (by omega) H) ?_
    rintro ⟨a1, a2, rfl⟩
    repeat (first|refine zA ?_|refine zB ?_|refine zC ?_|refine zD ?_|refine zE ?_|refine zF ?_|refine zG ?_|refine zH ?_|refine zI ?_|refine zJ ?_|refine zK ?_|refine zL ?_|refine zM rfl ?_|refine zN ?_|refine zO ?_|refine zP ?_|refine zQ ?_)
    refine x_reg ?_
    first | refine x_pv (pv_move_bool rfl) ?_ | refine x_pv (pv_move rfl) ?_
    first | refine x_pv (pv_not_p rfl) ?_ | refine x_pv (pv_not rfl) ?_
    first | refine x_pv (pv_move_bool rfl) ?_ | refine x_pv (pv_move rfl) ?_
    first | refine x_gn rfl ?_ | refine x_gu rfl ?_ | (refine x_gy rfl ?_; (first | refine x_pv (pv_move_int rfl) ?_ | refine x_pv (pv_move rfl) ?_))
    first | refine x_gn rfl ?_ | refine x_gu rfl ?_ | (refine x_gy rfl ?_; (first | refine x_pv (pv_lssn (b := 16) rfl rfl) ?_ | refine x_pv (pv_lss rfl rfl) ?_))
    first | refine x_pv (pv_pick_tb rfl rfl) ?_ | refine x_pv (pv_pick_fb rfl rfl) ?_ | refine x_pv (pv_pick_t rfl rfl) ?_ | refine x_pv (pv_pick_f rfl rfl) ?_ | refine x_pv (pv_pick_and rfl rfl) ?_ | refine x_pv (pv_pick_or rfl rfl) ?_
    first | refine x_pv (pv_assign_bool rfl) ?_ | refine x_pv (pv_assign rfl) ?_
    refine x_nil ?_
    repeat (first|refine zA ?_|refine zB ?_|refine zC ?_|refine zD ?_|refine zE ?_|refine zF ?_|refine zG ?_|refine zH ?_|refine zI ?_|refine zJ ?_|refine zK ?_|refine zL ?_|refine zM rfl ?_|refine zN ?_|refine zO ?_|refine zP ?_|refine zQ ?_)
    refine x_cond_f rfl ?_
    repeat (first|refine zA ?_|refine zB ?_|refine zC ?_|refine zD ?_|refine zE ?_|refine zF ?_|refine zG ?_|refine zH ?_|refine zI ?_|refine zJ ?_|refine zK ?_|refine zL ?_|refine zM rfl ?_|refine zN ?_|refine zO ?_|refine zP ?_|refine zQ ?_)
    refine x_reg ?_
    first | refine x_pv (pv_move_bool rfl) ?_ | refine x_pv (pv_move rfl) ?_
    first | refine x_pv (pv_not_p rfl) ?_ | refine x_pv (pv_not rfl) ?_
    first | refine x_pv (pv_move_bool rfl) ?_ | refine x_pv (pv_move rfl) ?_
    first | refine x_gn rfl ?_ | refine x_gu rfl ?_ | (refine x_gy rfl ?_; (first | refine x_pv (pv_move_int rfl) ?_ | refine x_pv (pv_move rfl) ?_))
    first | refine x_gn rfl ?_ | refine x_gu rfl ?_ | (refine x_gy rfl ?_; (first | refine x_pv (pv_eqln (b := 16) rfl rfl) ?_ | refine x_pv (pv_eql rfl rfl) ?_))
    first | refine x_pv (pv_pick_tb rfl rfl) ?_ | refine x_pv (pv_pick_fb rfl rfl) ?_ | refine x_pv (pv_pick_t rfl rfl) ?_ | refine x_pv (pv_pick_f rfl rfl) ?_ | refine x_pv (pv_pick_and rfl rfl) ?_ | refine x_pv (pv_pick_or rfl rfl) ?_
    first | refine x_pv (pv_assign_bool rfl) ?_ | refine x_pv (pv_assign rfl) ?_
    refine x_nil ?_
    repeat (first|refine zA ?_|refine zB ?_|refine zC ?_|refine zD ?_|refine zE ?_|refine zF ?_|refine zG ?_|refine zH ?_|refine zI ?_|refine zJ ?_|refine zK ?_|refine zL ?_|refine zM rfl ?_|refine zN ?_|refine zO ?_|refine zP ?_|refine zQ ?_)
    refine x_cond_f rfl ?_
    have hx : l[i] < 256 := hd0 _ (List.getElem_mem hA)
    by_cases hB : i = 16
    · subst hB
      have hdn : d = [] := List.eq_nil_of_length_eq_zero (by omega)
      subst hdn
      repeat (first|refine zA ?_|refine zB ?_|refine zC ?_|refine zD ?_|refine zE ?_|refine zF ?_|refine zG ?_|refine zH ?_|refine zI ?_|refine zJ ?_|refine zK ?_|refine zL ?_|refine zM rfl ?_|refine zN ?_|refine zO ?_|refine zP ?_|refine zQ ?_)
      refine x_reg ?_
      first | refine x_pv (pv_move_bool rfl) ?_ | refine x_pv (pv_move rfl) ?_
      first | refine x_pv (pv_move_bool rfl) ?_ | refine x_pv (pv_move rfl) ?_
      first | refine x_gn rfl ?_ | refine x_gu rfl ?_ | (refine x_gy rfl ?_; (first | refine x_pv (pv_move_int rfl) ?_ | refine x_pv (pv_move rfl) ?_))
      first | refine x_gn rfl ?_ | refine x_gu rfl ?_ | (refine x_gy rfl ?_; (first | refine x_pv (pv_eqln (b := 16) rfl rfl) ?_ | refine x_pv (pv_eql rfl rfl) ?_))
      first | refine x_pv (pv_pick_tb rfl rfl) ?_ | refine x_pv (pv_pick_fb rfl rfl) ?_ | refine x_pv (pv_pick_t rfl rfl) ?_ | refine x_pv (pv_pick_f rfl rfl) ?_ | refine x_pv (pv_pick_and rfl rfl) ?_ | refine x_pv (pv_pick_or rfl rfl) ?_
      first | refine x_pv (pv_assign_bool rfl) ?_ | refine x_pv (pv_assign rfl) ?_
      refine x_nil ?_
      repeat (first|refine zA ?_|refine zB ?_|refine zC ?_|refine zD ?_|refine zE ?_|refine zF ?_|refine zG ?_|refine zH ?_|refine zI ?_|refine zJ ?_|refine zK ?_|refine zL ?_|refine zM rfl ?_|refine zN ?_|refine zO ?_|refine zP ?_|refine zQ ?_)
      refine x_cond_t rfl ?_
      repeat (first|refine zA ?_|refine zB ?_|refine zC ?_|refine zD ?_|refine zE ?_|refine zF ?_|refine zG ?_|refine zH ?_|refine zI ?_|refine zJ ?_|refine zK ?_|refine zL ?_|refine zM rfl ?_|refine zN ?_|refine zO ?_|refine zP ?_|refine zQ ?_)
      refine x_reg ?_
      first | refine x_pv (pv_move_slice rfl) ?_ | refine x_pv (pv_move rfl) ?_
      first | refine x_pv (pv_move_slice rfl) ?_ | refine x_pv (pv_move rfl) ?_
      first | refine x_pv (pv_move_int rfl) ?_ | refine x_pv (pv_move rfl) ?_
      first | refine x_pv (pv_ixs1z rfl rfl (by first | omega | exact Nat.le_of_ble_eq_true rfl | (simp; done) | (simp; omega))) ?_ | refine x_pv (pv_ixs1 rfl rfl (by first | omega | exact Nat.le_of_ble_eq_true rfl | (simp; done) | (simp; omega))) ?_
      refine x_load_sl (j := 16) rfl (h.imp (by exact Imp.arr (by repeat (first | exact Arr.nil | exact Arr.stop | refine Arr.cons (by repeat constructor) ?_ | refine Arr.skip ?_)))) hA (getM hA) ?_
      first | refine x_pv (pv_quon (b := 4) rfl rfl (by first | omega | exact Nat.le_of_ble_eq_true rfl | (simp; done) | (simp; omega) | decide) (by first | omega | exact Nat.le_of_ble_eq_true rfl | (simp; done) | (simp; omega) | decide)) ?_ | refine x_pv (pv_quo_i rfl rfl (by first | omega | exact Nat.le_of_ble_eq_true rfl | (simp; done) | (simp; omega) | decide)) ?_
      refine x_buildSlice (cs := #[.int .i64 _]) (by omega) (by omega) rfl ?_; intro b54
      refine x_append rfl rfl (by repeat constructor) (Rd.cl (xs := [nv (l[16] / 4)]) (by repeat constructor) rfl (by first | rfl | omega | (rw [szL]; omega) | exact Nat.le_of_ble_eq_true rfl | (simp; done) | (simp; omega)) rfl) (by first | rfl | exact oneM_u8 _ | exact oneL_u8 _ | (simp [oneC]; done)) (by omega) (by first | omega | exact Nat.le_of_ble_eq_true rfl | (simp; done) | (simp; omega) | decide) ?_; intro a3 c3
      first | refine x_pv (pv_assign_slice rfl) ?_ | refine x_pv (pv_assign rfl) ?_
      refine x_nil ?_
      repeat (first|refine zA ?_|refine zB ?_|refine zC ?_|refine zD ?_|refine zE ?_|refine zF ?_|refine zG ?_|refine zH ?_|refine zI ?_|refine zJ ?_|refine zK ?_|refine zL ?_|refine zM rfl ?_|refine zN ?_|refine zO ?_|refine zP ?_|refine zQ ?_)
      refine x_reg ?_
      first | refine x_pv (pv_move_int rfl) ?_ | refine x_pv (pv_move rfl) ?_
      first | refine x_pv (pv_addn (b := 1) rfl rfl (by first | omega | exact Nat.le_of_ble_eq_true rfl | (simp; done) | (simp; omega) | decide)) ?_ | refine x_pv (pv_add_i rfl rfl (by first | omega | exact Nat.le_of_ble_eq_true rfl | (simp; done) | (simp; omega) | decide)) ?_
      first | refine x_pv (pv_assign_int rfl) ?_ | refine x_pv (pv_assign rfl) ?_
      refine x_nil ?_
      repeat (first|refine zA ?_|refine zB ?_|refine zC ?_|refine zD ?_|refine zE ?_|refine zF ?_|refine zG ?_|refine zH ?_|refine zI ?_|refine zJ ?_|refine zK ?_|refine zL ?_|refine zM rfl ?_|refine zN ?_|refine zO ?_|refine zP ?_|refine zQ ?_)
      refine x_loop_n (16 + 1, a3, c3, [l[16] / 4]) (by first | omega | (dsimp only; omega) | (simp only []; omega)) ⟨by dsimp only; omega, ?_, rfl, ?_, ?_⟩ (by exact Imp.arr (by repeat (first | exact Arr.nil | exact Arr.stop | refine Arr.cons (by repeat constructor) ?_ | refine Arr.skip ?_))) ⟨rfl, rfl, trivial⟩
      · intro x hx; simp only [List.mem_singleton] at hx; omega
      · dsimp only; rw [high_16 l hA hd0]; simp [valD]
      · intro x hx; simp at hx; omega
    · repeat (first|refine zA ?_|refine zB ?_|refine zC ?_|refine zD ?_|refine zE ?_|refine zF ?_|refine zG ?_|refine zH ?_|refine zI ?_|refine zJ ?_|refine zK ?_|refine zL ?_|refine zM rfl ?_|refine zN ?_|refine zO ?_|refine zP ?_|refine zQ ?_)
      refine x_reg ?_
      first | refine x_pv (pv_move_bool rfl) ?_ | refine x_pv (pv_move rfl) ?_
      first | refine x_pv (pv_move_bool rfl) ?_ | refine x_pv (pv_move rfl) ?_
      first | refine x_gn rfl ?_ | refine x_gu rfl ?_ | (refine x_gy rfl ?_; (first | refine x_pv (pv_move_int rfl) ?_ | refine x_pv (pv_move rfl) ?_))
      first | refine x_gn rfl ?_ | refine x_gu rfl ?_ | (refine x_gy rfl ?_; (first | refine x_pv (pv_eqln (b := 16) rfl rfl) ?_ | refine x_pv (pv_eql rfl rfl) ?_))
      first | refine x_pv (pv_pick_tb rfl rfl) ?_ | refine x_pv (pv_pick_fb rfl rfl) ?_ | refine x_pv (pv_pick_t rfl rfl) ?_ | refine x_pv (pv_pick_f rfl rfl) ?_ | refine x_pv (pv_pick_and rfl rfl) ?_ | refine x_pv (pv_pick_or rfl rfl) ?_
      first | refine x_pv (pv_assign_bool rfl) ?_ | refine x_pv (pv_assign rfl) ?_
      refine x_nil ?_
      repeat (first|refine zA ?_|refine zB ?_|refine zC ?_|refine zD ?_|refine zE ?_|refine zF ?_|refine zG ?_|refine zH ?_|refine zI ?_|refine zJ ?_|refine zK ?_|refine zL ?_|refine zM rfl ?_|refine zN ?_|refine zO ?_|refine zP ?_|refine zQ ?_)
      refine x_cond_f (by show Value.bool (decide _) = _; rw [decide_eq_false (by omega)]) ?_
      repeat (first|refine zA ?_|refine zB ?_|refine zC ?_|refine zD ?_|refine zE ?_|refine zF ?_|refine zG ?_|refine zH ?_|refine zI ?_|refine zJ ?_|refine zK ?_|refine zL ?_|refine zM rfl ?_|refine zN ?_|refine zO ?_|refine zP ?_|refine zQ ?_)
      refine x_reg ?_
      first | refine x_pv (pv_move_bool rfl) ?_ | refine x_pv (pv_move rfl) ?_
      first | refine x_pv (pv_move_bool rfl) ?_ | refine x_pv (pv_move rfl) ?_
      first | refine x_gn rfl ?_ | refine x_gu rfl ?_ | (refine x_gy rfl ?_; (first | refine x_pv (pv_move_int rfl) ?_ | refine x_pv (pv_move rfl) ?_))
      first | refine x_gn rfl ?_ | refine x_gu rfl ?_ | (refine x_gy rfl ?_; (first | refine x_pv (pv_gtrn (b := 16) rfl rfl) ?_ | refine x_pv (pv_gtr rfl rfl) ?_))
      first | refine x_pv (pv_pick_tb rfl rfl) ?_ | refine x_pv (pv_pick_fb rfl rfl) ?_ | refine x_pv (pv_pick_t rfl rfl) ?_ | refine x_pv (pv_pick_f rfl rfl) ?_ | refine x_pv (pv_pick_and rfl rfl) ?_ | refine x_pv (pv_pick_or rfl rfl) ?_
      first | refine x_pv (pv_assign_bool rfl) ?_ | refine x_pv (pv_assign rfl) ?_
      refine x_nil ?_
      repeat (first|refine zA ?_|refine zB ?_|refine zC ?_|refine zD ?_|refine zE ?_|refine zF ?_|refine zG ?_|refine zH ?_|refine zI ?_|refine zJ ?_|refine zK ?_|refine zL ?_|refine zM rfl ?_|refine zN ?_|refine zO ?_|refine zP ?_|refine zQ ?_)
      refine x_cond_p rfl (fun hC => ?_) (fun hC => ?_)
      · have hli : i - 17 < d.length := by omega
        have hlv : d[i - 17] ≤ 63 := hlast _ (by rw [List.getLast?_eq_getElem?, show d.length - 1 = i - 17 by omega, List.getElem?_eq_getElem hli])
        refine x_get (fun F w H => own_some .here (by omega) H) ?_
        rintro ⟨g, rfl⟩
        have gl : (d.map nv)[i - 17]? = some (nv d[i - 17]) := getM hli
        repeat (first|refine zA ?_|refine zB ?_|refine zC ?_|refine zD ?_|refine zE ?_|refine zF ?_|refine zG ?_|refine zH ?_|refine zI ?_|refine zJ ?_|refine zK ?_|refine zL ?_|refine zM rfl ?_|refine zN ?_|refine zO ?_|refine zP ?_|refine zQ ?_)
        refine x_draw (_) [0, 1, 2, 3, 4, 5, 6, 7, 8, 9, 10, 11, 12, 13, 14] (.r 0 (.r 1 (.r 2 (.r 3 (.r 4 (.r 5 (.r 6 (.r 7 (.r 8 (.r 9 (.r 10 (.r 11 (.r 12 (.r 13 (.r 14 (.q 15 (.e 16 false .nil))))))))))))))))) (by kernel_rfl) (by kernel_rfl) (Imp.refl _) ?_
        first | refine cx_p rfl (pv_move_slice rfl) ?_ | refine cx_p rfl (pv_move rfl) ?_
        first | refine cx_p rfl (pv_move_int rfl) ?_ | refine cx_p rfl (pv_move rfl) ?_
        first | refine cx_p rfl (pv_subn (b := 17) rfl rfl (by first | omega | exact Nat.le_of_ble_eq_true rfl | (simp; done) | (simp; omega) | decide) (by first | omega | exact Nat.le_of_ble_eq_true rfl | (simp; done) | (simp; omega) | decide)) ?_ | refine cx_p rfl (pv_sub_i rfl rfl (by first | omega | exact Nat.le_of_ble_eq_true rfl | (simp; done) | (simp; omega) | decide)) ?_
        first | refine cx_p rfl (pv_move_slice rfl) ?_ | refine cx_p rfl (pv_move rfl) ?_
        first | refine cx_p rfl (pv_move_int rfl) ?_ | refine cx_p rfl (pv_move rfl) ?_
        first | refine cx_p rfl (pv_subn (b := 17) rfl rfl (by first | omega | exact Nat.le_of_ble_eq_true rfl | (simp; done) | (simp; omega) | decide) (by first | omega | exact Nat.le_of_ble_eq_true rfl | (simp; done) | (simp; omega) | decide)) ?_ | refine cx_p rfl (pv_sub_i rfl rfl (by first | omega | exact Nat.le_of_ble_eq_true rfl | (simp; done) | (simp; omega) | decide)) ?_
        first | refine cx_p rfl (pv_ixs1z rfl rfl (by first | omega | exact Nat.le_of_ble_eq_true rfl | (simp; done) | (simp; omega))) ?_ | refine cx_p rfl (pv_ixs1 rfl rfl (by first | omega | exact Nat.le_of_ble_eq_true rfl | (simp; done) | (simp; omega))) ?_
        refine cx_load_sl (b := g) (o := 0) (j := i - 17) rfl (by rw [Nat.zero_add]; rfl) (Rd.own (by repeat constructor)) hli gl ?_
        first | refine cx_p rfl (pv_move_slice rfl) ?_ | refine cx_p rfl (pv_move rfl) ?_
        first | refine cx_p rfl (pv_move_int rfl) ?_ | refine cx_p rfl (pv_move rfl) ?_
        first | refine cx_p rfl (pv_ixs1z rfl rfl (by first | omega | exact Nat.le_of_ble_eq_true rfl | (simp; done) | (simp; omega))) ?_ | refine cx_p rfl (pv_ixs1 rfl rfl (by first | omega | exact Nat.le_of_ble_eq_true rfl | (simp; done) | (simp; omega))) ?_
        refine cx_load_sl (j := i) rfl rfl (h.imp (by exact Imp.arr (by repeat (first | exact Arr.nil | exact Arr.stop | refine Arr.cons (by repeat constructor) ?_ | refine Arr.skip ?_)))) hA (getM hA) ?_
        first | refine cx_p rfl (pv_remn (b := 4) rfl rfl (by first | omega | exact Nat.le_of_ble_eq_true rfl | (simp; done) | (simp; omega) | decide)) ?_ | refine cx_p rfl (pv_rem_i rfl rfl (by first | omega | exact Nat.le_of_ble_eq_true rfl | (simp; done) | (simp; omega) | decide)) ?_
        first | refine cx_p rfl (pv_muln (b := 64) rfl rfl (by first | omega | exact Nat.le_of_ble_eq_true rfl | (simp; done) | (simp; omega) | decide)) ?_ | refine cx_p rfl (pv_mul_i rfl rfl (by first | omega | exact Nat.le_of_ble_eq_true rfl | (simp; done) | (simp; omega) | decide)) ?_
        first | refine cx_p rfl (pv_addn rfl rfl (by first | omega | exact Nat.le_of_ble_eq_true rfl | (simp; done) | (simp; omega) | decide)) ?_ | refine cx_p rfl (pv_add_i rfl rfl (by first | omega | exact Nat.le_of_ble_eq_true rfl | (simp; done) | (simp; omega) | decide)) ?_
        first | refine cx_q rfl (pv_ixs1z rfl rfl (by first | omega | exact Nat.le_of_ble_eq_true rfl | (simp; done) | (simp; omega))) ?_ | refine cx_q rfl (pv_ixs1 rfl rfl (by first | omega | exact Nat.le_of_ble_eq_true rfl | (simp; done) | (simp; omega))) ?_
        refine cx_e rfl ?_; refine x_store_own1 (u := nv (d[i - 17] + l[i] % 4 * 64)) (i := i - 17) (xs := d.map nv) (ys := (d.set (i - 17) (d[i - 17] + l[i] % 4 * 64)).map nv) rfl rfl rfl (by repeat constructor) hli (by rw [List.map_set]) ?_; refine x_nil ⟨(fun hh => Bool.noConfusion hh), ?_⟩
        refine cx_nil ?_
        repeat (first|refine zA ?_|refine zB ?_|refine zC ?_|refine zD ?_|refine zE ?_|refine zF ?_|refine zG ?_|refine zH ?_|refine zI ?_|refine zJ ?_|refine zK ?_|refine zL ?_|refine zM rfl ?_|refine zN ?_|refine zO ?_|refine zP ?_|refine zQ ?_)
        refine x_reg ?_
        first | refine x_pv (pv_move_slice rfl) ?_ | refine x_pv (pv_move rfl) ?_
        first | refine x_pv (pv_move_slice rfl) ?_ | refine x_pv (pv_move rfl) ?_
        first | refine x_pv (pv_move_int rfl) ?_ | refine x_pv (pv_move rfl) ?_
        first | refine x_pv (pv_ixs1z rfl rfl (by first | omega | exact Nat.le_of_ble_eq_true rfl | (simp; done) | (simp; omega))) ?_ | refine x_pv (pv_ixs1 rfl rfl (by first | omega | exact Nat.le_of_ble_eq_true rfl | (simp; done) | (simp; omega))) ?_
        refine x_load_sl (j := i) rfl (h.imp (by exact Imp.arr (by repeat (first | exact Arr.nil | exact Arr.stop | refine Arr.cons (by repeat constructor) ?_ | refine Arr.skip ?_)))) hA (getM hA) ?_
        first | refine x_pv (pv_quon (b := 4) rfl rfl (by first | omega | exact Nat.le_of_ble_eq_true rfl | (simp; done) | (simp; omega) | decide) (by first | omega | exact Nat.le_of_ble_eq_true rfl | (simp; done) | (simp; omega) | decide)) ?_ | refine x_pv (pv_quo_i rfl rfl (by first | omega | exact Nat.le_of_ble_eq_true rfl | (simp; done) | (simp; omega) | decide)) ?_
        refine x_buildSlice (cs := #[.int .i64 _]) (by omega) (by omega) rfl ?_; intro b84
        refine x_append rfl rfl (by repeat constructor) (Rd.cl (xs := [nv (l[i] / 4)]) (by repeat constructor) rfl (by first | rfl | omega | (rw [szL]; omega) | exact Nat.le_of_ble_eq_true rfl | (simp; done) | (simp; omega)) rfl) (by first | rfl | exact oneM_u8 _ | exact oneL_u8 _ | (simp [oneC]; done)) (by omega) (by first | omega | exact Nat.le_of_ble_eq_true rfl | (simp; done) | (simp; omega) | decide) ?_; intro a3 c3
        first | refine x_pv (pv_assign_slice rfl) ?_ | refine x_pv (pv_assign rfl) ?_
        refine x_nil ?_
        repeat (first|refine zA ?_|refine zB ?_|refine zC ?_|refine zD ?_|refine zE ?_|refine zF ?_|refine zG ?_|refine zH ?_|refine zI ?_|refine zJ ?_|refine zK ?_|refine zL ?_|refine zM rfl ?_|refine zN ?_|refine zO ?_|refine zP ?_|refine zQ ?_)
        refine x_reg ?_
        first | refine x_pv (pv_move_int rfl) ?_ | refine x_pv (pv_move rfl) ?_
        first | refine x_pv (pv_addn (b := 1) rfl rfl (by first | omega | exact Nat.le_of_ble_eq_true rfl | (simp; done) | (simp; omega) | decide)) ?_ | refine x_pv (pv_add_i rfl rfl (by first | omega | exact Nat.le_of_ble_eq_true rfl | (simp; done) | (simp; omega) | decide)) ?_
        first | refine x_pv (pv_assign_int rfl) ?_ | refine x_pv (pv_assign rfl) ?_
        refine x_nil ?_
        repeat (first|refine zA ?_|refine zB ?_|refine zC ?_|refine zD ?_|refine zE ?_|refine zF ?_|refine zG ?_|refine zH ?_|refine zI ?_|refine zJ ?_|refine zK ?_|refine zL ?_|refine zM rfl ?_|refine zN ?_|refine zO ?_|refine zP ?_|refine zQ ?_)
        refine x_loop_n (i + 1, a3, c3, d.set (i - 17) (d[i - 17] + l[i] % 4 * 64) ++ [l[i] / 4]) (by first | omega | (dsimp only; omega) | (simp only []; omega)) ⟨by dsimp only; omega, ?_, by simp; omega, ?_, ?_⟩ ?_ ?_
        · intro x hx
          rcases List.mem_append.mp hx with h1 | h1
          · rcases List.mem_or_eq_of_mem_set h1 with h2 | h2
            · exact hd x h2
            · omega
          · simp only [List.mem_singleton] at h1; omega
        · dsimp only
          rw [high_step l i (by omega) hA, ← hdv, valD_app, valD_set, List.length_set, hdl, show i - 16 = (i - 17) + 1 by omega, Nat.pow_succ]
          simp only [valD, Nat.add_assoc, Nat.mul_assoc, ← Nat.mul_add, Nat.mul_zero, Nat.add_zero]
          congr 2; omega
        · intro x hx; simp at hx; omega
        · dsimp only; rw [List.length_append, List.length_set, List.map_append]; exact Imp.arr (by repeat (first | exact Arr.nil | exact Arr.stop | refine Arr.cons (by repeat constructor) ?_ | refine Arr.skip ?_))
        · dsimp only; rw [List.length_append, List.length_set]; exact ⟨rfl, rfl, trivial⟩
      · repeat (first|refine zA ?_|refine zB ?_|refine zC ?_|refine zD ?_|refine zE ?_|refine zF ?_|refine zG ?_|refine zH ?_|refine zI ?_|refine zJ ?_|refine zK ?_|refine zL ?_|refine zM rfl ?_|refine zN ?_|refine zO ?_|refine zP ?_|refine zQ ?_)
        refine x_reg ?_
        first | refine x_pv (pv_move_int rfl) ?_ | refine x_pv (pv_move rfl) ?_
        first | refine x_pv (pv_addn (b := 1) rfl rfl (by first | omega | exact Nat.le_of_ble_eq_true rfl | (simp; done) | (simp; omega) | decide)) ?_ | refine x_pv (pv_add_i rfl rfl (by first | omega | exact Nat.le_of_ble_eq_true rfl | (simp; done) | (simp; omega) | decide)) ?_
        first | refine x_pv (pv_assign_int rfl) ?_ | refine x_pv (pv_assign rfl) ?_
        refine x_nil ?_
        repeat (first|refine zA ?_|refine zB ?_|refine zC ?_|refine zD ?_|refine zE ?_|refine zF ?_|refine zG ?_|refine zH ?_|refine zI ?_|refine zJ ?_|refine zK ?_|refine zL ?_|refine zM rfl ?_|refine zN ?_|refine zO ?_|refine zP ?_|refine zQ ?_)
        exact x_loop_n (i + 1, da, dc, d) (by first | omega | (dsimp only; omega) | (simp only []; omega)) ⟨by dsimp only; omega, hd, by dsimp only; omega, by dsimp only; rw [hdv, high_lo l i (by omega) hd0, high_lo l (i + 1) (by omega) hd0], hlast⟩ (by exact Imp.arr (by repeat (first | exact Arr.nil | exact Arr.stop | refine Arr.cons (by repeat constructor) ?_ | refine Arr.skip ?_))) ⟨rfl, rfl, trivial⟩
  · have hie : i = l.length := by omega
    subst hie
    rw [List.take_length] at hdv
    repeat (first|refine zA ?_|refine zB ?_|refine zC ?_|refine zD ?_|refine zE ?_|refine zF ?_|refine zG ?_|refine zH ?_|refine zI ?_|refine zJ ?_|refine zK ?_|refine zL ?_|refine zM rfl ?_|refine zN ?_|refine zO ?_|refine zP ?_|refine zQ ?_)
    refine x_reg ?_
    first | refine x_pv (pv_move_slice rfl) ?_ | refine x_pv (pv_move rfl) ?_
    first | refine x_pv (pv_assign_slice rfl) ?_ | refine x_pv (pv_assign rfl) ?_
    refine x_nil ?_
    repeat (first|refine zA ?_|refine zB ?_|refine zC ?_|refine zD ?_|refine zE ?_|refine zF ?_|refine zG ?_|refine zH ?_|refine zI ?_|refine zJ ?_|refine zK ?_|refine zL ?_|refine zM rfl ?_|refine zN ?_|refine zO ?_|refine zP ?_|refine zQ ?_)
    refine rx1 (rx_slice rfl (rx_nil)) ?_
    exact ⟨_, ⟨da, dc, d, hd, hdv, hdl, rfl, rfl⟩, by exact Imp.arr (by repeat (first | exact Arr.nil | exact Arr.stop | refine Arr.cons (by repeat constructor) ?_ | refine Arr.skip ?_))⟩
end Go.Sl
