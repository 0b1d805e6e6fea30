/- the document's answer for the code, in digits: clean, nought. -/
import Derived.Test.YtiebmodokjaokabTagP
import Derived.Test.YtiebmodokjaokabEngX
set_option maxHeartbeats 4000000
set_option maxRecDepth 10000
set_option linter.unusedVariables false
set_option linter.unusedSimpArgs false
namespace Go.Sl
open Go Go.Proofs
attribute [local irreducible] cl pt own old pur ex all den denOps denS xOps xC cX CX xthen xblk xcut xloop retX resX Calls PV Rd Con
/-- A number that an int holds. -/
abbrev nv (n : Nat) : Value := .int .i64 (n : Int)
def valD : List Nat → Nat
  | [] => 0
  | x :: l => x + 256 * valD l
theorem valD_app (a b : List Nat) : valD (a ++ b) = valD a + 256 ^ a.length * valD b := by
  induction a with
  | nil => simp [valD]
  | cons x a ih =>
    simp only [List.cons_append, valD, ih, List.length_cons, Nat.pow_succ, Nat.mul_add]
    rw [← Nat.mul_assoc, Nat.mul_comm 256 (256 ^ a.length)]; omega
theorem valD_lt : ∀ (l : List Nat), (∀ x ∈ l, x < 256) → valD l < 256 ^ l.length
  | [], _ => by simp [valD]
  | x :: l, h => by
    have h1 := h x (by simp)
    have h2 := valD_lt l (fun y hy => h y (by simp [hy]))
    simp only [valD, List.length_cons, Nat.pow_succ]; omega
theorem valD_zeros (n : Nat) : valD (List.replicate n 0) = 0 := by
  induction n with
  | zero => rfl
  | succ n ih => simp [List.replicate_succ, valD, ih]
/-- Digits below 256. -/
def Dig (l : List Nat) : Prop := ∀ x ∈ l, x < 256
theorem clean_x {L : List Asrt} {a : Option Addr} {c n : Nat} {l : List Nat} (h : Rd L 1 (.slice a l.length c) l.length (l.map nv)) (hb : ∀ x ∈ l, x ≤ 1099511627776) (hl : l.length ≤ n) (hn : n ≤ 4096) (hv : valD l < 256 ^ n) :
    Con Try.prog 40 [.slice a l.length c] L (fun r M => ∃ a2 c2 d, Dig d ∧ valD d = valD l ∧ d.length ≤ n ∧ l.length ≤ d.length ∧ r = .slice a2 d.length c2 ∧ M = own 3 1 r d.length (d.map nv) :: L) := by
  refine fn_x Try.func40 rfl rfl rfl Try.mixed (by kernel_rfl) ?_
  intro w0
  repeat (first|refine zA ?_|refine zB ?_|refine zC ?_|refine zD ?_|refine zE ?_|refine zF ?_|refine zG ?_|refine zH ?_|refine zI ?_|refine zJ ?_|refine zK ?_|refine zL ?_|refine zM rfl ?_|refine zN ?_|refine zO ?_|refine zP ?_|refine zQ ?_)
  refine x_reg ?_
  first | refine x_pv (pv_assign_slice rfl) ?_ | refine x_pv (pv_assign rfl) ?_
  refine x_nil ?_
  repeat (first|refine zA ?_|refine zB ?_|refine zC ?_|refine zD ?_|refine zE ?_|refine zF ?_|refine zG ?_|refine zH ?_|refine zI ?_|refine zJ ?_|refine zK ?_|refine zL ?_|refine zM rfl ?_|refine zN ?_|refine zO ?_|refine zP ?_|refine zQ ?_)
  refine x_reg ?_
  first | refine x_pv (pv_assign_slice rfl) ?_ | refine x_pv (pv_assign rfl) ?_
  refine x_nil ?_
  repeat (first|refine zA ?_|refine zB ?_|refine zC ?_|refine zD ?_|refine zE ?_|refine zF ?_|refine zG ?_|refine zH ?_|refine zI ?_|refine zJ ?_|refine zK ?_|refine zL ?_|refine zM rfl ?_|refine zN ?_|refine zO ?_|refine zP ?_|refine zQ ?_)
  refine x_reg ?_
  first | refine x_pv (pv_assign_int rfl) ?_ | refine x_pv (pv_assign rfl) ?_
  refine x_nil ?_
  repeat (first|refine zA ?_|refine zB ?_|refine zC ?_|refine zD ?_|refine zE ?_|refine zF ?_|refine zG ?_|refine zH ?_|refine zI ?_|refine zJ ?_|refine zK ?_|refine zL ?_|refine zM rfl ?_|refine zN ?_|refine zO ?_|refine zP ?_|refine zQ ?_)
  refine x_reg ?_
  first | refine x_pv (pv_assign_int rfl) ?_ | refine x_pv (pv_assign rfl) ?_
  refine x_nil ?_
  repeat (first|refine zA ?_|refine zB ?_|refine zC ?_|refine zD ?_|refine zE ?_|refine zF ?_|refine zG ?_|refine zH ?_|refine zI ?_|refine zJ ?_|refine zK ?_|refine zL ?_|refine zM rfl ?_|refine zN ?_|refine zO ?_|refine zP ?_|refine zQ ?_)
  refine x_loop [(3, 32)] (by kernel_rfl) (fun s : Nat × Nat × Option Addr × Nat × List Nat => s.1 ≤ n ∧ s.2.2.2.2.length = s.1 ∧ s.2.1 ≤ 4398046511104 ∧ Dig s.2.2.2.2 ∧ valD s.2.2.2.2 + 256 ^ s.1 * (s.2.1 + valD (l.drop s.1)) = valD l)
    (fun s => own 3 1 (.slice s.2.2.1 s.2.2.2.2.length s.2.2.2.1) s.2.2.2.2.length (s.2.2.2.2.map nv) :: L)
    (fun s => [(5, .int .i64 (s.1 : Int)), (4, .int .i64 (s.2.1 : Int)), (3, .slice s.2.2.1 s.2.2.2.2.length s.2.2.2.1)]) (fun s => (l.length - s.1) * 4398046511105 + s.2.1) (0, 0, none, 0, []) ⟨Nat.zero_le _, rfl, by show 0 ≤ _; omega, by intro x hx; simp at hx, by simp [valD]⟩ Imp.own_nil ⟨rfl, rfl, rfl, trivial⟩ ?_
  rintro ⟨i, cy, da, dc, d⟩ u ⟨hi, hdl, hcy, hd, hval⟩
  dsimp only at hi hdl hcy hd hval ⊢
  have hdrop : ∀ hA : i < l.length, l.drop i = l[i] :: l.drop (i + 1) := fun hA => List.drop_eq_getElem_cons hA
  have step : ∀ x cy' : Nat, x = cy + (l[i]?.getD 0) → cy' = x / 256 → valD (d ++ [x % 256]) + 256 ^ (i + 1) * (cy' + valD (l.drop (i + 1))) = valD l := by
    intro x cy' hx hc
    rw [← hval, valD_app, hdl, Nat.pow_succ]
    have e : cy + valD (l.drop i) = x % 256 + 256 * (cy' + valD (l.drop (i + 1))) := by
      by_cases hA : i < l.length
      · rw [hdrop hA, List.getElem?_eq_getElem hA] at *
        simp only [Option.getD_some, valD] at *
        omega
      · rw [List.drop_eq_nil_of_le (by omega), List.drop_eq_nil_of_le (by omega), List.getElem?_eq_none (by omega)] at *
        simp only [Option.getD_none, valD] at *
        omega
    rw [e]
    simp only [valD, Nat.mul_add, Nat.mul_assoc]
    omega
  have room : 0 < cy ∨ i < l.length → i < n := by
    intro h0
    rcases h0 with h0 | h0
    · apply Nat.lt_of_not_le
      intro hc
      have h1 : 256 ^ n ≤ 256 ^ i := Nat.pow_le_pow_right (by omega) hc
      have h2 : 256 ^ i * 1 ≤ 256 ^ i * (cy + valD (l.drop i)) := Nat.mul_le_mul_left _ (by omega)
      omega
    · omega
  have dig : ∀ x, Dig (d ++ [x % 256]) := by
    intro x y hy
    rcases List.mem_append.mp hy with h1 | h1
    · exact hd y h1
    · simp only [List.mem_singleton] at h1; omega
  by_cases hA : i < l.length
  · have hx : l[i] ≤ 1099511627776 := hb _ (List.getElem_mem hA)
    repeat (first|refine zA ?_|refine zB ?_|refine zC ?_|refine zD ?_|refine zE ?_|refine zF ?_|refine zG ?_|refine zH ?_|refine zI ?_|refine zJ ?_|refine zK ?_|refine zL ?_|refine zM rfl ?_|refine zN ?_|refine zO ?_|refine zP ?_|refine zQ ?_)
    refine x_reg ?_
    first | refine x_pv (pv_move_int rfl) ?_ | refine x_pv (pv_move rfl) ?_
    first | refine x_pv (pv_move_slice rfl) ?_ | refine x_pv (pv_move rfl) ?_
    first | refine x_pv (pv_len rfl) ?_ | refine x_pv (pv_len_arr) ?_ | refine x_pv (pv_len_str rfl) ?_
    first | refine x_pv (pv_lssn rfl rfl) ?_ | refine x_pv (pv_lss rfl rfl) ?_
    refine x_isT 9 rfl (decide_eq_true (hA)) ?_
    first | refine x_pv (pv_move_bool rfl) ?_ | refine x_pv (pv_move rfl) ?_
    first | refine x_gn rfl ?_ | refine x_gu rfl ?_ | (refine x_gy rfl ?_; (first | refine x_pv (pv_move_int rfl) ?_ | refine x_pv (pv_move rfl) ?_))
    first | refine x_gn rfl ?_ | refine x_gu rfl ?_ | (refine x_gy rfl ?_; (first | refine x_pv (pv_gtrn (b := 0) rfl rfl) ?_ | refine x_pv (pv_gtr rfl rfl) ?_))
    first | refine x_pv (pv_pick_tb rfl rfl) ?_ | refine x_pv (pv_pick_fb rfl rfl) ?_ | refine x_pv (pv_pick_t rfl rfl) ?_ | refine x_pv (pv_pick_f rfl rfl) ?_ | refine x_pv (pv_pick_and rfl rfl) ?_ | refine x_pv (pv_pick_or rfl rfl) ?_
    refine x_nil ?_
    repeat (first|refine zA ?_|refine zB ?_|refine zC ?_|refine zD ?_|refine zE ?_|refine zF ?_|refine zG ?_|refine zH ?_|refine zI ?_|refine zJ ?_|refine zK ?_|refine zL ?_|refine zM rfl ?_|refine zN ?_|refine zO ?_|refine zP ?_|refine zQ ?_)
    refine x_cond_t rfl ?_
    repeat (first|refine zA ?_|refine zB ?_|refine zC ?_|refine zD ?_|refine zE ?_|refine zF ?_|refine zG ?_|refine zH ?_|refine zI ?_|refine zJ ?_|refine zK ?_|refine zL ?_|refine zM rfl ?_|refine zN ?_|refine zO ?_|refine zP ?_|refine zQ ?_)
    refine x_reg ?_
    first | refine x_pv (pv_move_int rfl) ?_ | refine x_pv (pv_move rfl) ?_
    first | refine x_pv (pv_move_slice rfl) ?_ | refine x_pv (pv_move rfl) ?_
    first | refine x_pv (pv_len rfl) ?_ | refine x_pv (pv_len_arr) ?_ | refine x_pv (pv_len_str rfl) ?_
    first | refine x_pv (pv_lssn rfl rfl) ?_ | refine x_pv (pv_lss rfl rfl) ?_
    refine x_isT 19 rfl (decide_eq_true (hA)) ?_
    refine x_nil ?_
    repeat (first|refine zA ?_|refine zB ?_|refine zC ?_|refine zD ?_|refine zE ?_|refine zF ?_|refine zG ?_|refine zH ?_|refine zI ?_|refine zJ ?_|refine zK ?_|refine zL ?_|refine zM rfl ?_|refine zN ?_|refine zO ?_|refine zP ?_|refine zQ ?_)
    refine x_cond_t rfl ?_
    refine x_get (fun F w H => (h.imp (by exact Imp.arr (by repeat (first | exact Arr.nil | exact Arr.stop | refine Arr.cons (by repeat constructor) ?_ | refine Arr.skip ?_)))).someAt (by omega) H) ?_
    rintro ⟨a1, a2, rfl⟩
    repeat (first|refine zA ?_|refine zB ?_|refine zC ?_|refine zD ?_|refine zE ?_|refine zF ?_|refine zG ?_|refine zH ?_|refine zI ?_|refine zJ ?_|refine zK ?_|refine zL ?_|refine zM rfl ?_|refine zN ?_|refine zO ?_|refine zP ?_|refine zQ ?_)
    refine x_reg ?_
    first | refine x_pv (pv_move_int rfl) ?_ | refine x_pv (pv_move rfl) ?_
    first | refine x_pv (pv_move_slice rfl) ?_ | refine x_pv (pv_move rfl) ?_
    first | refine x_pv (pv_move_int rfl) ?_ | refine x_pv (pv_move rfl) ?_
    first | refine x_pv (pv_ixs1z rfl rfl (by first | omega | exact Nat.le_of_ble_eq_true rfl | (simp; done) | (simp; omega))) ?_ | refine x_pv (pv_ixs1 rfl rfl (by first | omega | exact Nat.le_of_ble_eq_true rfl | (simp; done) | (simp; omega))) ?_
    refine x_load_sl (j := i) rfl (h.imp (by exact Imp.arr (by repeat (first | exact Arr.nil | exact Arr.stop | refine Arr.cons (by repeat constructor) ?_ | refine Arr.skip ?_)))) hA (getM hA) ?_
    first | refine x_pv (pv_addn rfl rfl (by first | omega | exact Nat.le_of_ble_eq_true rfl | (simp; done) | (simp; omega) | decide)) ?_ | refine x_pv (pv_add_i rfl rfl (by first | omega | exact Nat.le_of_ble_eq_true rfl | (simp; done) | (simp; omega) | decide)) ?_
    first | refine x_pv (pv_assign_int rfl) ?_ | refine x_pv (pv_assign rfl) ?_
    refine x_nil ?_
    repeat (first|refine zA ?_|refine zB ?_|refine zC ?_|refine zD ?_|refine zE ?_|refine zF ?_|refine zG ?_|refine zH ?_|refine zI ?_|refine zJ ?_|refine zK ?_|refine zL ?_|refine zM rfl ?_|refine zN ?_|refine zO ?_|refine zP ?_|refine zQ ?_)
    refine x_reg ?_
    first | refine x_pv (pv_move_slice rfl) ?_ | refine x_pv (pv_move rfl) ?_
    first | refine x_pv (pv_move_int rfl) ?_ | refine x_pv (pv_move rfl) ?_
    first | refine x_pv (pv_remn (b := 256) rfl rfl (by first | omega | exact Nat.le_of_ble_eq_true rfl | (simp; done) | (simp; omega) | decide)) ?_ | refine x_pv (pv_rem_i rfl rfl (by first | omega | exact Nat.le_of_ble_eq_true rfl | (simp; done) | (simp; omega) | decide)) ?_
    refine x_buildSlice (cs := #[.int .i64 _]) (by omega) (by omega) rfl ?_; intro b29
    refine x_append rfl rfl (by repeat constructor) (Rd.cl (xs := [nv ((cy + l[i]) % 256)]) (by repeat constructor) rfl (by first | rfl | omega | (rw [szL]; omega) | exact Nat.le_of_ble_eq_true rfl | (simp; done) | (simp; omega)) rfl) (by first | rfl | exact oneM_u8 _ | exact oneL_u8 _ | (simp [oneC]; done)) (by omega) (by first | omega | exact Nat.le_of_ble_eq_true rfl | (simp; done) | (simp; omega) | decide) ?_; intro a3 c3
    first | refine x_pv (pv_assign_slice rfl) ?_ | refine x_pv (pv_assign rfl) ?_
    refine x_nil ?_
    repeat (first|refine zA ?_|refine zB ?_|refine zC ?_|refine zD ?_|refine zE ?_|refine zF ?_|refine zG ?_|refine zH ?_|refine zI ?_|refine zJ ?_|refine zK ?_|refine zL ?_|refine zM rfl ?_|refine zN ?_|refine zO ?_|refine zP ?_|refine zQ ?_)
    refine x_reg ?_
    first | refine x_pv (pv_move_int rfl) ?_ | refine x_pv (pv_move rfl) ?_
    first | refine x_pv (pv_quon (b := 256) rfl rfl (by first | omega | exact Nat.le_of_ble_eq_true rfl | (simp; done) | (simp; omega) | decide) (by first | omega | exact Nat.le_of_ble_eq_true rfl | (simp; done) | (simp; omega) | decide)) ?_ | refine x_pv (pv_quo_i rfl rfl (by first | omega | exact Nat.le_of_ble_eq_true rfl | (simp; done) | (simp; omega) | decide)) ?_
    first | refine x_pv (pv_assign_int rfl) ?_ | refine x_pv (pv_assign rfl) ?_
    refine x_nil ?_
    repeat (first|refine zA ?_|refine zB ?_|refine zC ?_|refine zD ?_|refine zE ?_|refine zF ?_|refine zG ?_|refine zH ?_|refine zI ?_|refine zJ ?_|refine zK ?_|refine zL ?_|refine zM rfl ?_|refine zN ?_|refine zO ?_|refine zP ?_|refine zQ ?_)
    refine x_reg ?_
    first | refine x_pv (pv_move_int rfl) ?_ | refine x_pv (pv_move rfl) ?_
    first | refine x_pv (pv_addn (b := 1) rfl rfl (by first | omega | exact Nat.le_of_ble_eq_true rfl | (simp; done) | (simp; omega) | decide)) ?_ | refine x_pv (pv_add_i rfl rfl (by first | omega | exact Nat.le_of_ble_eq_true rfl | (simp; done) | (simp; omega) | decide)) ?_
    first | refine x_pv (pv_assign_int rfl) ?_ | refine x_pv (pv_assign rfl) ?_
    refine x_nil ?_
    repeat (first|refine zA ?_|refine zB ?_|refine zC ?_|refine zD ?_|refine zE ?_|refine zF ?_|refine zG ?_|refine zH ?_|refine zI ?_|refine zJ ?_|refine zK ?_|refine zL ?_|refine zM rfl ?_|refine zN ?_|refine zO ?_|refine zP ?_|refine zQ ?_)
    refine x_loop_n (i + 1, (cy + l[i]) / 256, a3, c3, d ++ [(cy + l[i]) % 256]) (by first | omega | (dsimp only; omega) | (simp only []; omega)) ⟨room (.inr hA), by simp [hdl], by dsimp only; omega, dig _, step _ _ (by rw [List.getElem?_eq_getElem hA]; rfl) rfl⟩ ?_ ?_
    · dsimp only; rw [List.length_append, List.map_append]; exact Imp.arr (by repeat (first | exact Arr.nil | exact Arr.stop | refine Arr.cons (by repeat constructor) ?_ | refine Arr.skip ?_))
    · dsimp only; rw [List.length_append]; exact ⟨rfl, rfl, rfl, trivial⟩
  · repeat (first|refine zA ?_|refine zB ?_|refine zC ?_|refine zD ?_|refine zE ?_|refine zF ?_|refine zG ?_|refine zH ?_|refine zI ?_|refine zJ ?_|refine zK ?_|refine zL ?_|refine zM rfl ?_|refine zN ?_|refine zO ?_|refine zP ?_|refine zQ ?_)
    refine x_reg ?_
    first | refine x_pv (pv_move_int rfl) ?_ | refine x_pv (pv_move rfl) ?_
    first | refine x_pv (pv_move_slice rfl) ?_ | refine x_pv (pv_move rfl) ?_
    first | refine x_pv (pv_len rfl) ?_ | refine x_pv (pv_len_arr) ?_ | refine x_pv (pv_len_str rfl) ?_
    first | refine x_pv (pv_lssn rfl rfl) ?_ | refine x_pv (pv_lss rfl rfl) ?_
    refine x_isF 9 rfl (decide_eq_false (hA)) ?_
    first | refine x_pv (pv_move_bool rfl) ?_ | refine x_pv (pv_move rfl) ?_
    first | refine x_gn rfl ?_ | refine x_gu rfl ?_ | (refine x_gy rfl ?_; (first | refine x_pv (pv_move_int rfl) ?_ | refine x_pv (pv_move rfl) ?_))
    first | refine x_gn rfl ?_ | refine x_gu rfl ?_ | (refine x_gy rfl ?_; (first | refine x_pv (pv_gtrn (b := 0) rfl rfl) ?_ | refine x_pv (pv_gtr rfl rfl) ?_))
    first | refine x_pv (pv_pick_tb rfl rfl) ?_ | refine x_pv (pv_pick_fb rfl rfl) ?_ | refine x_pv (pv_pick_t rfl rfl) ?_ | refine x_pv (pv_pick_f rfl rfl) ?_ | refine x_pv (pv_pick_and rfl rfl) ?_ | refine x_pv (pv_pick_or rfl rfl) ?_
    refine x_nil ?_
    repeat (first|refine zA ?_|refine zB ?_|refine zC ?_|refine zD ?_|refine zE ?_|refine zF ?_|refine zG ?_|refine zH ?_|refine zI ?_|refine zJ ?_|refine zK ?_|refine zL ?_|refine zM rfl ?_|refine zN ?_|refine zO ?_|refine zP ?_|refine zQ ?_)
    refine x_cond_p rfl (fun hB => ?_) (fun hB => ?_)
    · repeat (first|refine zA ?_|refine zB ?_|refine zC ?_|refine zD ?_|refine zE ?_|refine zF ?_|refine zG ?_|refine zH ?_|refine zI ?_|refine zJ ?_|refine zK ?_|refine zL ?_|refine zM rfl ?_|refine zN ?_|refine zO ?_|refine zP ?_|refine zQ ?_)
      refine x_reg ?_
      first | refine x_pv (pv_move_int rfl) ?_ | refine x_pv (pv_move rfl) ?_
      first | refine x_pv (pv_move_slice rfl) ?_ | refine x_pv (pv_move rfl) ?_
      first | refine x_pv (pv_len rfl) ?_ | refine x_pv (pv_len_arr) ?_ | refine x_pv (pv_len_str rfl) ?_
      first | refine x_pv (pv_lssn rfl rfl) ?_ | refine x_pv (pv_lss rfl rfl) ?_
      refine x_isF 19 rfl (decide_eq_false (hA)) ?_
      refine x_nil ?_
      repeat (first|refine zA ?_|refine zB ?_|refine zC ?_|refine zD ?_|refine zE ?_|refine zF ?_|refine zG ?_|refine zH ?_|refine zI ?_|refine zJ ?_|refine zK ?_|refine zL ?_|refine zM rfl ?_|refine zN ?_|refine zO ?_|refine zP ?_|refine zQ ?_)
      refine x_cond_f rfl ?_
      repeat (first|refine zA ?_|refine zB ?_|refine zC ?_|refine zD ?_|refine zE ?_|refine zF ?_|refine zG ?_|refine zH ?_|refine zI ?_|refine zJ ?_|refine zK ?_|refine zL ?_|refine zM rfl ?_|refine zN ?_|refine zO ?_|refine zP ?_|refine zQ ?_)
      refine x_reg ?_
      first | refine x_pv (pv_move_slice rfl) ?_ | refine x_pv (pv_move rfl) ?_
      first | refine x_pv (pv_move_int rfl) ?_ | refine x_pv (pv_move rfl) ?_
      first | refine x_pv (pv_remn (b := 256) rfl rfl (by first | omega | exact Nat.le_of_ble_eq_true rfl | (simp; done) | (simp; omega) | decide)) ?_ | refine x_pv (pv_rem_i rfl rfl (by first | omega | exact Nat.le_of_ble_eq_true rfl | (simp; done) | (simp; omega) | decide)) ?_
      refine x_buildSlice (cs := #[.int .i64 _]) (by omega) (by omega) rfl ?_; intro b29
      refine x_append rfl rfl (by repeat constructor) (Rd.cl (xs := [nv (cy % 256)]) (by repeat constructor) rfl (by first | rfl | omega | (rw [szL]; omega) | exact Nat.le_of_ble_eq_true rfl | (simp; done) | (simp; omega)) rfl) (by first | rfl | exact oneM_u8 _ | exact oneL_u8 _ | (simp [oneC]; done)) (by omega) (by first | omega | exact Nat.le_of_ble_eq_true rfl | (simp; done) | (simp; omega) | decide) ?_; intro a3 c3
      first | refine x_pv (pv_assign_slice rfl) ?_ | refine x_pv (pv_assign rfl) ?_
      refine x_nil ?_
      repeat (first|refine zA ?_|refine zB ?_|refine zC ?_|refine zD ?_|refine zE ?_|refine zF ?_|refine zG ?_|refine zH ?_|refine zI ?_|refine zJ ?_|refine zK ?_|refine zL ?_|refine zM rfl ?_|refine zN ?_|refine zO ?_|refine zP ?_|refine zQ ?_)
      refine x_reg ?_
      first | refine x_pv (pv_move_int rfl) ?_ | refine x_pv (pv_move rfl) ?_
      first | refine x_pv (pv_quon (b := 256) rfl rfl (by first | omega | exact Nat.le_of_ble_eq_true rfl | (simp; done) | (simp; omega) | decide) (by first | omega | exact Nat.le_of_ble_eq_true rfl | (simp; done) | (simp; omega) | decide)) ?_ | refine x_pv (pv_quo_i rfl rfl (by first | omega | exact Nat.le_of_ble_eq_true rfl | (simp; done) | (simp; omega) | decide)) ?_
      first | refine x_pv (pv_assign_int rfl) ?_ | refine x_pv (pv_assign rfl) ?_
      refine x_nil ?_
      repeat (first|refine zA ?_|refine zB ?_|refine zC ?_|refine zD ?_|refine zE ?_|refine zF ?_|refine zG ?_|refine zH ?_|refine zI ?_|refine zJ ?_|refine zK ?_|refine zL ?_|refine zM rfl ?_|refine zN ?_|refine zO ?_|refine zP ?_|refine zQ ?_)
      refine x_reg ?_
      first | refine x_pv (pv_move_int rfl) ?_ | refine x_pv (pv_move rfl) ?_
      first | refine x_pv (pv_addn (b := 1) rfl rfl (by first | omega | exact Nat.le_of_ble_eq_true rfl | (simp; done) | (simp; omega) | decide)) ?_ | refine x_pv (pv_add_i rfl rfl (by first | omega | exact Nat.le_of_ble_eq_true rfl | (simp; done) | (simp; omega) | decide)) ?_
      first | refine x_pv (pv_assign_int rfl) ?_ | refine x_pv (pv_assign rfl) ?_
      refine x_nil ?_
      repeat (first|refine zA ?_|refine zB ?_|refine zC ?_|refine zD ?_|refine zE ?_|refine zF ?_|refine zG ?_|refine zH ?_|refine zI ?_|refine zJ ?_|refine zK ?_|refine zL ?_|refine zM rfl ?_|refine zN ?_|refine zO ?_|refine zP ?_|refine zQ ?_)
      refine x_loop_n (i + 1, cy / 256, a3, c3, d ++ [cy % 256]) (by first | omega | (dsimp only; omega) | (simp only []; omega)) ⟨room (.inl hB), by simp [hdl], by dsimp only; omega, dig _, step _ _ (by rw [List.getElem?_eq_none (by omega)]; rfl) rfl⟩ ?_ ?_
      · dsimp only; rw [List.length_append, List.map_append]; exact Imp.arr (by repeat (first | exact Arr.nil | exact Arr.stop | refine Arr.cons (by repeat constructor) ?_ | refine Arr.skip ?_))
      · dsimp only; rw [List.length_append]; exact ⟨rfl, rfl, rfl, trivial⟩
    · have hc0 : cy = 0 := by omega
      subst hc0
      rw [List.drop_eq_nil_of_le (by omega)] at hval
      repeat (first|refine zA ?_|refine zB ?_|refine zC ?_|refine zD ?_|refine zE ?_|refine zF ?_|refine zG ?_|refine zH ?_|refine zI ?_|refine zJ ?_|refine zK ?_|refine zL ?_|refine zM rfl ?_|refine zN ?_|refine zO ?_|refine zP ?_|refine zQ ?_)
      refine x_reg ?_
      first | refine x_pv (pv_move_slice rfl) ?_ | refine x_pv (pv_move rfl) ?_
      first | refine x_pv (pv_assign_slice rfl) ?_ | refine x_pv (pv_assign rfl) ?_
      refine x_nil ?_
      repeat (first|refine zA ?_|refine zB ?_|refine zC ?_|refine zD ?_|refine zE ?_|refine zF ?_|refine zG ?_|refine zH ?_|refine zI ?_|refine zJ ?_|refine zK ?_|refine zL ?_|refine zM rfl ?_|refine zN ?_|refine zO ?_|refine zP ?_|refine zQ ?_)
      refine rx1 (rx_slice rfl (rx_nil)) ?_
      exact ⟨_, ⟨da, dc, d, hd, by simp only [valD] at hval; omega, by omega, by omega, rfl, rfl⟩, by exact Imp.arr (by repeat (first | exact Arr.nil | exact Arr.stop | refine Arr.cons (by repeat constructor) ?_ | refine Arr.skip ?_))⟩
theorem noughtD_x {L : List Asrt} {a : Option Addr} {c : Nat} {l : List Nat} (h : Rd L 1 (.slice a l.length c) l.length (l.map nv)) (hl : l.length ≤ 4096) :
    Con Try.prog 39 [.slice a l.length c] L (fun r M => r = .bool (decide (valD l = 0)) ∧ L = M) := by
  refine fn_x Try.func39 rfl rfl rfl Try.mixed (by kernel_rfl) ?_
  intro w0
  repeat (first|refine zA ?_|refine zB ?_|refine zC ?_|refine zD ?_|refine zE ?_|refine zF ?_|refine zG ?_|refine zH ?_|refine zI ?_|refine zJ ?_|refine zK ?_|refine zL ?_|refine zM rfl ?_|refine zN ?_|refine zO ?_|refine zP ?_|refine zQ ?_)
  refine x_reg ?_
  first | refine x_pv (pv_assign_bool rfl) ?_ | refine x_pv (pv_assign rfl) ?_
  refine x_nil ?_
  repeat (first|refine zA ?_|refine zB ?_|refine zC ?_|refine zD ?_|refine zE ?_|refine zF ?_|refine zG ?_|refine zH ?_|refine zI ?_|refine zJ ?_|refine zK ?_|refine zL ?_|refine zM rfl ?_|refine zN ?_|refine zO ?_|refine zP ?_|refine zQ ?_)
  refine x_reg ?_
  first | refine x_pv (pv_assign_int rfl) ?_ | refine x_pv (pv_assign rfl) ?_
  refine x_nil ?_
  repeat (first|refine zA ?_|refine zB ?_|refine zC ?_|refine zD ?_|refine zE ?_|refine zF ?_|refine zG ?_|refine zH ?_|refine zI ?_|refine zJ ?_|refine zK ?_|refine zL ?_|refine zM rfl ?_|refine zN ?_|refine zO ?_|refine zP ?_|refine zQ ?_)
  refine x_loop [(2, 14)] (by kernel_rfl) (fun i : Nat => i ≤ l.length ∧ valD (l.take i) = 0) (fun _ => L) (fun i => [(3, .int .i64 (i : Int))]) (fun i => l.length - i) 0 ⟨Nat.zero_le _, rfl⟩ (Imp.refl _) ⟨rfl, trivial⟩ ?_
  rintro i u ⟨hi, hz⟩
  repeat (first|refine zA ?_|refine zB ?_|refine zC ?_|refine zD ?_|refine zE ?_|refine zF ?_|refine zG ?_|refine zH ?_|refine zI ?_|refine zJ ?_|refine zK ?_|refine zL ?_|refine zM rfl ?_|refine zN ?_|refine zO ?_|refine zP ?_|refine zQ ?_)
  refine x_reg ?_
  first | refine x_pv (pv_move_int rfl) ?_ | refine x_pv (pv_move rfl) ?_
  first | refine x_pv (pv_move_slice rfl) ?_ | refine x_pv (pv_move rfl) ?_
  first | refine x_pv (pv_len rfl) ?_ | refine x_pv (pv_len_arr) ?_ | refine x_pv (pv_len_str rfl) ?_
  first | refine x_pv (pv_lssn rfl rfl) ?_ | refine x_pv (pv_lss rfl rfl) ?_
  refine x_nil ?_
  repeat (first|refine zA ?_|refine zB ?_|refine zC ?_|refine zD ?_|refine zE ?_|refine zF ?_|refine zG ?_|refine zH ?_|refine zI ?_|refine zJ ?_|refine zK ?_|refine zL ?_|refine zM rfl ?_|refine zN ?_|refine zO ?_|refine zP ?_|refine zQ ?_)
  refine x_cond_p rfl (fun hA => ?_) (fun hA => ?_)
  · refine x_get (fun F w H => h.someAt (by omega) H) ?_
    rintro ⟨a1, a2, rfl⟩
    have hs : valD l = 256 ^ i * (l[i] + 256 * valD (l.drop (i + 1))) := by
      have e := valD_app (l.take i) (l.drop i)
      rw [List.take_append_drop, hz, List.drop_eq_getElem_cons hA, List.length_take, Nat.min_eq_left hi, Nat.zero_add] at e
      exact e
    repeat (first|refine zA ?_|refine zB ?_|refine zC ?_|refine zD ?_|refine zE ?_|refine zF ?_|refine zG ?_|refine zH ?_|refine zI ?_|refine zJ ?_|refine zK ?_|refine zL ?_|refine zM rfl ?_|refine zN ?_|refine zO ?_|refine zP ?_|refine zQ ?_)
    refine x_reg ?_
    first | refine x_pv (pv_move_slice rfl) ?_ | refine x_pv (pv_move rfl) ?_
    first | refine x_pv (pv_move_int rfl) ?_ | refine x_pv (pv_move rfl) ?_
    first | refine x_pv (pv_ixs1z rfl rfl (by first | omega | exact Nat.le_of_ble_eq_true rfl | (simp; done) | (simp; omega))) ?_ | refine x_pv (pv_ixs1 rfl rfl (by first | omega | exact Nat.le_of_ble_eq_true rfl | (simp; done) | (simp; omega))) ?_
    refine x_load_sl (j := i) rfl h hA (getM hA) ?_
    first | refine x_pv (pv_neqn (b := 0) rfl rfl) ?_ | refine x_pv (pv_neq rfl rfl) ?_
    refine x_nil ?_
    repeat (first|refine zA ?_|refine zB ?_|refine zC ?_|refine zD ?_|refine zE ?_|refine zF ?_|refine zG ?_|refine zH ?_|refine zI ?_|refine zJ ?_|refine zK ?_|refine zL ?_|refine zM rfl ?_|refine zN ?_|refine zO ?_|refine zP ?_|refine zQ ?_)
    refine x_cond_p rfl (fun h0 => ?_) (fun h0 => ?_)
    · repeat (first|refine zA ?_|refine zB ?_|refine zC ?_|refine zD ?_|refine zE ?_|refine zF ?_|refine zG ?_|refine zH ?_|refine zI ?_|refine zJ ?_|refine zK ?_|refine zL ?_|refine zM rfl ?_|refine zN ?_|refine zO ?_|refine zP ?_|refine zQ ?_)
      refine x_reg ?_
      first | refine x_pv (pv_assign_bool rfl) ?_ | refine x_pv (pv_assign rfl) ?_
      refine x_nil ?_
      repeat (first|refine zA ?_|refine zB ?_|refine zC ?_|refine zD ?_|refine zE ?_|refine zF ?_|refine zG ?_|refine zH ?_|refine zI ?_|refine zJ ?_|refine zK ?_|refine zL ?_|refine zM rfl ?_|refine zN ?_|refine zO ?_|refine zP ?_|refine zQ ?_)
      refine rx1 (rx_bool rfl (rx_nil)) ?_
      refine ⟨_, ⟨?_, rfl⟩, by exact Imp.arr (by repeat (first | exact Arr.nil | exact Arr.stop | refine Arr.cons (by repeat constructor) ?_ | refine Arr.skip ?_))⟩
      have hz1 : ¬ l[i] = 0 := fun e => by rw [e] at h0; exact h0 rfl
      have : ¬ valD l = 0 := by
        rw [hs]
        exact Nat.ne_of_gt (Nat.mul_pos (Nat.pow_pos (by omega)) (by omega))
      rw [decide_eq_false this]
    · have hz1 : l[i] = 0 := by
        apply Classical.byContradiction; intro e; exact h0 (fun e2 => e (by first | exact e2 | (simp at e2; omega)))
      repeat (first|refine zA ?_|refine zB ?_|refine zC ?_|refine zD ?_|refine zE ?_|refine zF ?_|refine zG ?_|refine zH ?_|refine zI ?_|refine zJ ?_|refine zK ?_|refine zL ?_|refine zM rfl ?_|refine zN ?_|refine zO ?_|refine zP ?_|refine zQ ?_)
      refine x_reg ?_
      first | refine x_pv (pv_move_int rfl) ?_ | refine x_pv (pv_move rfl) ?_
      first | refine x_pv (pv_addn (b := 1) rfl rfl (by first | omega | exact Nat.le_of_ble_eq_true rfl | (simp; done) | (simp; omega) | decide)) ?_ | refine x_pv (pv_add_i rfl rfl (by first | omega | exact Nat.le_of_ble_eq_true rfl | (simp; done) | (simp; omega) | decide)) ?_
      first | refine x_pv (pv_assign_int rfl) ?_ | refine x_pv (pv_assign rfl) ?_
      refine x_nil ?_
      repeat (first|refine zA ?_|refine zB ?_|refine zC ?_|refine zD ?_|refine zE ?_|refine zF ?_|refine zG ?_|refine zH ?_|refine zI ?_|refine zJ ?_|refine zK ?_|refine zL ?_|refine zM rfl ?_|refine zN ?_|refine zO ?_|refine zP ?_|refine zQ ?_)
      refine x_loop_n (i + 1) (by first | omega | (dsimp only; omega) | (simp only []; omega)) ⟨by omega, ?_⟩ (by exact Imp.arr (by repeat (first | exact Arr.nil | exact Arr.stop | refine Arr.cons (by repeat constructor) ?_ | refine Arr.skip ?_))) ⟨rfl, trivial⟩
      rw [List.take_succ_eq_append_getElem hA, valD_app, hz, hz1]; simp [valD]
  · repeat (first|refine zA ?_|refine zB ?_|refine zC ?_|refine zD ?_|refine zE ?_|refine zF ?_|refine zG ?_|refine zH ?_|refine zI ?_|refine zJ ?_|refine zK ?_|refine zL ?_|refine zM rfl ?_|refine zN ?_|refine zO ?_|refine zP ?_|refine zQ ?_)
    refine x_reg ?_
    first | refine x_pv (pv_assign_bool rfl) ?_ | refine x_pv (pv_assign rfl) ?_
    refine x_nil ?_
    repeat (first|refine zA ?_|refine zB ?_|refine zC ?_|refine zD ?_|refine zE ?_|refine zF ?_|refine zG ?_|refine zH ?_|refine zI ?_|refine zJ ?_|refine zK ?_|refine zL ?_|refine zM rfl ?_|refine zN ?_|refine zO ?_|refine zP ?_|refine zQ ?_)
    refine rx1 (rx_bool rfl (rx_nil)) ?_
    have hie : i = l.length := by omega
    rw [hie, List.take_length] at hz
    exact ⟨_, ⟨by rw [decide_eq_true hz], rfl⟩, by exact Imp.arr (by repeat (first | exact Arr.nil | exact Arr.stop | refine Arr.cons (by repeat constructor) ?_ | refine Arr.skip ?_))⟩
end Go.Sl
