/- the document's answer for the code, in digits: add, mul. -/
import Derived.Test.YtiebmodokjaokabRefF
set_option maxHeartbeats 4000000
set_option maxRecDepth 10000
set_option linter.unusedVariables false
set_option linter.unusedSimpArgs false
namespace Go.Sl
open Go Go.Proofs
attribute [local irreducible] cl pt own old pur ex all den denOps denS xOps xC cX CX xthen xblk xcut xloop retX resX Calls PV Rd Con
theorem valD_set : ∀ (s : List Nat) (i y : Nat) (h : i < s.length), valD (s.set i (s[i] + y)) = valD s + 256 ^ i * y
  | x :: s, 0, y, _ => by simp [valD]; omega
  | x :: s, i + 1, y, h => by
    have := valD_set s i y (by simpa using h)
    simp only [List.set_cons_succ, List.getElem_cons_succ, valD, this, Nat.pow_succ, Nat.mul_add]
    rw [← Nat.mul_assoc, Nat.mul_comm 256 (256 ^ i)]; omega
theorem bnd_set {s : List Nat} {i y B C : Nat} (hs : ∀ x ∈ s, x ≤ B) (h : i < s.length) (hy : B + y ≤ C) : ∀ x ∈ s.set i (s[i] + y), x ≤ C := by
  intro x hx
  rcases List.mem_or_eq_of_mem_set hx with h1 | h1
  · have := hs x h1; omega
  · have := hs _ (List.getElem_mem h); omega
theorem valD_take (l : List Nat) (i : Nat) (h : i < l.length) : valD (l.take (i + 1)) = valD (l.take i) + 256 ^ i * l[i] := by
  rw [List.take_succ_eq_append_getElem h, valD_app, List.length_take, Nat.min_eq_left (by omega)]; simp [valD]
theorem add_x {L : List Asrt} {aa ab : Option Addr} {ca cb n : Nat} {la lb : List Nat} (ha : Rd L 1 (.slice aa la.length ca) la.length (la.map nv)) (hb : Rd L 1 (.slice ab lb.length cb) lb.length (lb.map nv)) (da : Dig la) (db : Dig lb)
    (hla : la.length ≤ n) (hlb : lb.length ≤ n) (hn : n ≤ 4096) (hv : valD la + valD lb < 256 ^ n) :
    Con Try.prog 31 [.slice aa la.length ca, .slice ab lb.length cb] L (fun r M => ∃ a2 c2 d, Dig d ∧ valD d = valD la + valD lb ∧ d.length ≤ n ∧ r = .slice a2 d.length c2 ∧ M = own 3 1 r d.length (d.map nv) :: L) := by
  refine fn_x Try.func31 rfl rfl rfl Try.mixed (by kernel_rfl) ?_
  intro w0
  repeat (first|refine zA ?_|refine zB ?_|refine zC ?_|refine zD ?_|refine zE ?_|refine zF ?_|refine zG ?_|refine zH ?_|refine zI ?_|refine zJ ?_|refine zK ?_|refine zL ?_|refine zM rfl ?_|refine zN ?_|refine zO ?_|refine zP ?_|refine zQ ?_)
  refine x_reg ?_
  first | refine x_pv (pv_assign_slice rfl) ?_ | refine x_pv (pv_assign rfl) ?_
  refine x_nil ?_
  repeat (first|refine zA ?_|refine zB ?_|refine zC ?_|refine zD ?_|refine zE ?_|refine zF ?_|refine zG ?_|refine zH ?_|refine zI ?_|refine zJ ?_|refine zK ?_|refine zL ?_|refine zM rfl ?_|refine zN ?_|refine zO ?_|refine zP ?_|refine zQ ?_)
  refine x_reg ?_
  first | refine x_pv (pv_move_slice rfl) ?_ | refine x_pv (pv_move rfl) ?_
  first | refine x_pv (pv_len rfl) ?_ | refine x_pv (pv_len_arr) ?_ | refine x_pv (pv_len_str rfl) ?_
  first | refine x_pv (pv_assign_int rfl) ?_ | refine x_pv (pv_assign rfl) ?_
  refine x_nil ?_
  repeat (first|refine zA ?_|refine zB ?_|refine zC ?_|refine zD ?_|refine zE ?_|refine zF ?_|refine zG ?_|refine zH ?_|refine zI ?_|refine zJ ?_|refine zK ?_|refine zL ?_|refine zM rfl ?_|refine zN ?_|refine zO ?_|refine zP ?_|refine zQ ?_)
  refine x_reg ?_
  first | refine x_pv (pv_move_slice rfl) ?_ | refine x_pv (pv_move rfl) ?_
  first | refine x_pv (pv_len rfl) ?_ | refine x_pv (pv_len_arr) ?_ | refine x_pv (pv_len_str rfl) ?_
  first | refine x_pv (pv_move_int rfl) ?_ | refine x_pv (pv_move rfl) ?_
  first | refine x_pv (pv_gtrn rfl rfl) ?_ | refine x_pv (pv_gtr rfl rfl) ?_
  refine x_nil ?_
  repeat (first|refine zA ?_|refine zB ?_|refine zC ?_|refine zD ?_|refine zE ?_|refine zF ?_|refine zG ?_|refine zH ?_|refine zI ?_|refine zJ ?_|refine zK ?_|refine zL ?_|refine zM rfl ?_|refine zN ?_|refine zO ?_|refine zP ?_|refine zQ ?_)
  refine x_cutt [(5, 5), (15, 16)] (by kernel_rfl) (fun N : Nat => la.length ≤ N ∧ lb.length ≤ N ∧ N ≤ n) (fun _ => L) (fun N => [(5, .int .i64 (N : Int))]) ?_ ?_
  · refine x_cond_p rfl (fun hA => ?_) (fun hA => ?_)
    · repeat (first|refine zA ?_|refine zB ?_|refine zC ?_|refine zD ?_|refine zE ?_|refine zF ?_|refine zG ?_|refine zH ?_|refine zI ?_|refine zJ ?_|refine zK ?_|refine zL ?_|refine zM rfl ?_|refine zN ?_|refine zO ?_|refine zP ?_|refine zQ ?_)
      refine x_reg ?_
      first | refine x_pv (pv_move_slice rfl) ?_ | refine x_pv (pv_move rfl) ?_
      first | refine x_pv (pv_len rfl) ?_ | refine x_pv (pv_len_arr) ?_ | refine x_pv (pv_len_str rfl) ?_
      first | refine x_pv (pv_assign_int rfl) ?_ | refine x_pv (pv_assign rfl) ?_
      refine x_nil ?_
      repeat (first|refine zA ?_|refine zB ?_|refine zC ?_|refine zD ?_|refine zE ?_|refine zF ?_|refine zG ?_|refine zH ?_|refine zI ?_|refine zJ ?_|refine zK ?_|refine zL ?_|refine zM rfl ?_|refine zN ?_|refine zO ?_|refine zP ?_|refine zQ ?_)
      exact x_cut_n lb.length ⟨by omega, by omega, by omega⟩ (by exact Imp.arr (by repeat (first | exact Arr.nil | exact Arr.stop | refine Arr.cons (by repeat constructor) ?_ | refine Arr.skip ?_))) ⟨rfl, trivial⟩
    · repeat (first|refine zA ?_|refine zB ?_|refine zC ?_|refine zD ?_|refine zE ?_|refine zF ?_|refine zG ?_|refine zH ?_|refine zI ?_|refine zJ ?_|refine zK ?_|refine zL ?_|refine zM rfl ?_|refine zN ?_|refine zO ?_|refine zP ?_|refine zQ ?_)
      exact x_cut_n la.length ⟨by omega, by omega, by omega⟩ (by exact Imp.arr (by repeat (first | exact Arr.nil | exact Arr.stop | refine Arr.cons (by repeat constructor) ?_ | refine Arr.skip ?_))) ⟨rfl, trivial⟩
  rintro N u ⟨h1, h2, h3⟩
  repeat (first|refine zA ?_|refine zB ?_|refine zC ?_|refine zD ?_|refine zE ?_|refine zF ?_|refine zG ?_|refine zH ?_|refine zI ?_|refine zJ ?_|refine zK ?_|refine zL ?_|refine zM rfl ?_|refine zN ?_|refine zO ?_|refine zP ?_|refine zQ ?_)
  refine x_reg ?_
  first | refine x_pv (pv_move_int rfl) ?_ | refine x_pv (pv_move rfl) ?_
  refine x_mk1 (f := nv) (a := 0) rfl rfl rfl (by first | omega | exact Nat.le_of_ble_eq_true rfl | (simp; done) | (simp; omega) | decide) (by first | omega | exact Nat.le_of_ble_eq_true rfl | (simp; done) | (simp; omega) | decide) (by first | omega | exact Nat.le_of_ble_eq_true rfl | (simp; done) | (simp; omega) | decide) ?_; intro b18
  first | refine x_pv (pv_assign_slice rfl) ?_ | refine x_pv (pv_assign rfl) ?_
  refine x_nil ?_
  repeat (first|refine zA ?_|refine zB ?_|refine zC ?_|refine zD ?_|refine zE ?_|refine zF ?_|refine zG ?_|refine zH ?_|refine zI ?_|refine zJ ?_|refine zK ?_|refine zL ?_|refine zM rfl ?_|refine zN ?_|refine zO ?_|refine zP ?_|refine zQ ?_)
  refine x_reg ?_
  first | refine x_pv (pv_assign_int rfl) ?_ | refine x_pv (pv_assign rfl) ?_
  refine x_nil ?_
  repeat (first|refine zA ?_|refine zB ?_|refine zC ?_|refine zD ?_|refine zE ?_|refine zF ?_|refine zG ?_|refine zH ?_|refine zI ?_|refine zJ ?_|refine zK ?_|refine zL ?_|refine zM rfl ?_|refine zN ?_|refine zO ?_|refine zP ?_|refine zQ ?_)
  refine x_loop [(7, 7), (19, 36)] (by kernel_rfl) (fun s : Nat × List Nat => s.1 ≤ la.length ∧ s.2.length = N ∧ (∀ x ∈ s.2, x ≤ 256 * s.1) ∧ valD s.2 = valD (la.take s.1))
    (fun s => cl b18 ((s.2.map nv).toArray) 3 :: L) (fun s => [(7, .int .i64 (s.1 : Int))]) (fun s => la.length - s.1) (0, List.replicate N 0) ⟨by show 0 ≤ _; omega, by simp, by intro x hx; simp at hx; show x ≤ 256 * 0; omega, by simp [valD_zeros, valD]⟩ (by exact Imp.arr (by repeat (first | exact Arr.nil | exact Arr.stop | refine Arr.cons (by repeat constructor) ?_ | refine Arr.skip ?_))) ⟨rfl, trivial⟩ ?_
  rintro ⟨i, s⟩ u2 ⟨hi, hsl, hsb, hsv⟩
  dsimp only at hi hsl hsb hsv ⊢
  repeat (first|refine zA ?_|refine zB ?_|refine zC ?_|refine zD ?_|refine zE ?_|refine zF ?_|refine zG ?_|refine zH ?_|refine zI ?_|refine zJ ?_|refine zK ?_|refine zL ?_|refine zM rfl ?_|refine zN ?_|refine zO ?_|refine zP ?_|refine zQ ?_)
  refine x_reg ?_
  first | refine x_pv (pv_move_int rfl) ?_ | refine x_pv (pv_move rfl) ?_
  first | refine x_pv (pv_move_slice rfl) ?_ | refine x_pv (pv_move rfl) ?_
  first | refine x_pv (pv_len rfl) ?_ | refine x_pv (pv_len_arr) ?_ | refine x_pv (pv_len_str rfl) ?_
  first | refine x_pv (pv_lssn rfl rfl) ?_ | refine x_pv (pv_lss rfl rfl) ?_
  refine x_nil ?_
  repeat (first|refine zA ?_|refine zB ?_|refine zC ?_|refine zD ?_|refine zE ?_|refine zF ?_|refine zG ?_|refine zH ?_|refine zI ?_|refine zJ ?_|refine zK ?_|refine zL ?_|refine zM rfl ?_|refine zN ?_|refine zO ?_|refine zP ?_|refine zQ ?_)
  refine x_cond_p rfl (fun hA => ?_) (fun hA => ?_)
  · refine x_get (fun F w H => (ha.imp (by exact Imp.arr (by repeat (first | exact Arr.nil | exact Arr.stop | refine Arr.cons (by repeat constructor) ?_ | refine Arr.skip ?_)))).someAt (by omega) H) ?_
    rintro ⟨a1, a2, rfl⟩
    have hsi : i < s.length := by omega
    have hx : s[i] ≤ 256 * i := hsb _ (List.getElem_mem hsi)
    have hy : la[i] < 256 := da _ (List.getElem_mem hA)
    repeat (first|refine zA ?_|refine zB ?_|refine zC ?_|refine zD ?_|refine zE ?_|refine zF ?_|refine zG ?_|refine zH ?_|refine zI ?_|refine zJ ?_|refine zK ?_|refine zL ?_|refine zM rfl ?_|refine zN ?_|refine zO ?_|refine zP ?_|refine zQ ?_)
    refine x_draw (_) [0, 1, 2, 3, 4, 5, 6, 7, 8, 9, 10] (.r 0 (.r 1 (.r 2 (.r 3 (.r 4 (.r 5 (.r 6 (.r 7 (.r 8 (.r 9 (.r 10 (.q 11 (.e 12 false .nil))))))))))))) (by kernel_rfl) (by kernel_rfl) (Imp.refl _) ?_
    first | refine cx_p rfl (pv_move_slice rfl) ?_ | refine cx_p rfl (pv_move rfl) ?_
    first | refine cx_p rfl (pv_move_int rfl) ?_ | refine cx_p rfl (pv_move rfl) ?_
    first | refine cx_p rfl (pv_move_slice rfl) ?_ | refine cx_p rfl (pv_move rfl) ?_
    first | refine cx_p rfl (pv_move_int rfl) ?_ | refine cx_p rfl (pv_move rfl) ?_
    first | refine cx_p rfl (pv_ixs1z rfl rfl (by first | omega | exact Nat.le_of_ble_eq_true rfl | (simp; done) | (simp; omega))) ?_ | refine cx_p rfl (pv_ixs1 rfl rfl (by first | omega | exact Nat.le_of_ble_eq_true rfl | (simp; done) | (simp; omega))) ?_
    refine cx_load rfl rfl (by repeat constructor) (by rw [List.getElem?_toArray]; exact getM hsi) ?_
    first | refine cx_p rfl (pv_move_slice rfl) ?_ | refine cx_p rfl (pv_move rfl) ?_
    first | refine cx_p rfl (pv_move_int rfl) ?_ | refine cx_p rfl (pv_move rfl) ?_
    first | refine cx_p rfl (pv_ixs1z rfl rfl (by first | omega | exact Nat.le_of_ble_eq_true rfl | (simp; done) | (simp; omega))) ?_ | refine cx_p rfl (pv_ixs1 rfl rfl (by first | omega | exact Nat.le_of_ble_eq_true rfl | (simp; done) | (simp; omega))) ?_
    refine cx_load_sl (j := i) rfl rfl (ha.imp (by exact Imp.arr (by repeat (first | exact Arr.nil | exact Arr.stop | refine Arr.cons (by repeat constructor) ?_ | refine Arr.skip ?_)))) hA (getM hA) ?_
    first | refine cx_p rfl (pv_addn rfl rfl (by first | omega | exact Nat.le_of_ble_eq_true rfl | (simp; done) | (simp; omega) | decide)) ?_ | refine cx_p rfl (pv_add_i rfl rfl (by first | omega | exact Nat.le_of_ble_eq_true rfl | (simp; done) | (simp; omega) | decide)) ?_
    first | refine cx_q rfl (pv_ixs1z rfl rfl (by first | omega | exact Nat.le_of_ble_eq_true rfl | (simp; done) | (simp; omega))) ?_ | refine cx_q rfl (pv_ixs1 rfl rfl (by first | omega | exact Nat.le_of_ble_eq_true rfl | (simp; done) | (simp; omega))) ?_
    refine cx_e rfl ?_
    refine x_store_i rfl rfl (by repeat constructor) (by first | rfl | omega | (rw [szL]; omega) | exact Nat.le_of_ble_eq_true rfl | (simp; done) | (simp; omega)) (setL (f := nv) (l := s)) ?_
    refine x_nil ⟨(fun hh => Bool.noConfusion hh), ?_⟩
    refine cx_nil ?_
    repeat (first|refine zA ?_|refine zB ?_|refine zC ?_|refine zD ?_|refine zE ?_|refine zF ?_|refine zG ?_|refine zH ?_|refine zI ?_|refine zJ ?_|refine zK ?_|refine zL ?_|refine zM rfl ?_|refine zN ?_|refine zO ?_|refine zP ?_|refine zQ ?_)
    refine x_reg ?_
    first | refine x_pv (pv_move_int rfl) ?_ | refine x_pv (pv_move rfl) ?_
    first | refine x_pv (pv_addn (b := 1) rfl rfl (by first | omega | exact Nat.le_of_ble_eq_true rfl | (simp; done) | (simp; omega) | decide)) ?_ | refine x_pv (pv_add_i rfl rfl (by first | omega | exact Nat.le_of_ble_eq_true rfl | (simp; done) | (simp; omega) | decide)) ?_
    first | refine x_pv (pv_assign_int rfl) ?_ | refine x_pv (pv_assign rfl) ?_
    refine x_nil ?_
    repeat (first|refine zA ?_|refine zB ?_|refine zC ?_|refine zD ?_|refine zE ?_|refine zF ?_|refine zG ?_|refine zH ?_|refine zI ?_|refine zJ ?_|refine zK ?_|refine zL ?_|refine zM rfl ?_|refine zN ?_|refine zO ?_|refine zP ?_|refine zQ ?_)
    refine x_loop_n (i + 1, s.set i (s[i] + la[i])) (by first | omega | (dsimp only; omega) | (simp only []; omega)) ⟨by dsimp only; omega, by simp [hsl], bnd_set hsb hsi (by dsimp only; omega), by dsimp only; rw [valD_set, hsv, valD_take _ _ hA]⟩ (by exact Imp.arr (by repeat (first | exact Arr.nil | exact Arr.stop | refine Arr.cons (by repeat constructor) ?_ | refine Arr.skip ?_))) ⟨rfl, trivial⟩
  have hie : i = la.length := by omega
  subst hie
  rw [List.take_length] at hsv
  repeat (first|refine zA ?_|refine zB ?_|refine zC ?_|refine zD ?_|refine zE ?_|refine zF ?_|refine zG ?_|refine zH ?_|refine zI ?_|refine zJ ?_|refine zK ?_|refine zL ?_|refine zM rfl ?_|refine zN ?_|refine zO ?_|refine zP ?_|refine zQ ?_)
  refine x_reg ?_
  first | refine x_pv (pv_assign_int rfl) ?_ | refine x_pv (pv_assign rfl) ?_
  refine x_nil ?_
  repeat (first|refine zA ?_|refine zB ?_|refine zC ?_|refine zD ?_|refine zE ?_|refine zF ?_|refine zG ?_|refine zH ?_|refine zI ?_|refine zJ ?_|refine zK ?_|refine zL ?_|refine zM rfl ?_|refine zN ?_|refine zO ?_|refine zP ?_|refine zQ ?_)
  refine x_loop [(8, 8), (37, 54)] (by kernel_rfl) (fun s : Nat × List Nat => s.1 ≤ lb.length ∧ s.2.length = N ∧ (∀ x ∈ s.2, x ≤ 256 * (la.length + s.1)) ∧ valD s.2 = valD la + valD (lb.take s.1))
    (fun s => cl b18 ((s.2.map nv).toArray) 3 :: L) (fun s => [(8, .int .i64 (s.1 : Int))]) (fun s => lb.length - s.1) (0, s) ⟨by show 0 ≤ _; omega, hsl, hsb, by rw [hsv]; simp [valD]⟩ (by exact Imp.arr (by repeat (first | exact Arr.nil | exact Arr.stop | refine Arr.cons (by repeat constructor) ?_ | refine Arr.skip ?_))) ⟨rfl, trivial⟩ ?_
  rintro ⟨i, s2⟩ u3 ⟨hi, hsl, hsb, hsv⟩
  dsimp only at hi hsl hsb hsv ⊢
  repeat (first|refine zA ?_|refine zB ?_|refine zC ?_|refine zD ?_|refine zE ?_|refine zF ?_|refine zG ?_|refine zH ?_|refine zI ?_|refine zJ ?_|refine zK ?_|refine zL ?_|refine zM rfl ?_|refine zN ?_|refine zO ?_|refine zP ?_|refine zQ ?_)
  refine x_reg ?_
  first | refine x_pv (pv_move_int rfl) ?_ | refine x_pv (pv_move rfl) ?_
  first | refine x_pv (pv_move_slice rfl) ?_ | refine x_pv (pv_move rfl) ?_
  first | refine x_pv (pv_len rfl) ?_ | refine x_pv (pv_len_arr) ?_ | refine x_pv (pv_len_str rfl) ?_
  first | refine x_pv (pv_lssn rfl rfl) ?_ | refine x_pv (pv_lss rfl rfl) ?_
  refine x_nil ?_
  repeat (first|refine zA ?_|refine zB ?_|refine zC ?_|refine zD ?_|refine zE ?_|refine zF ?_|refine zG ?_|refine zH ?_|refine zI ?_|refine zJ ?_|refine zK ?_|refine zL ?_|refine zM rfl ?_|refine zN ?_|refine zO ?_|refine zP ?_|refine zQ ?_)
  refine x_cond_p rfl (fun hA => ?_) (fun hA => ?_)
  · refine x_get (fun F w H => (hb.imp (by exact Imp.arr (by repeat (first | exact Arr.nil | exact Arr.stop | refine Arr.cons (by repeat constructor) ?_ | refine Arr.skip ?_)))).someAt (by omega) H) ?_
    rintro ⟨a1, a2, rfl⟩
    have hsi : i < s2.length := by omega
    have hx : s2[i] ≤ 256 * (la.length + i) := hsb _ (List.getElem_mem hsi)
    have hy : lb[i] < 256 := db _ (List.getElem_mem hA)
    repeat (first|refine zA ?_|refine zB ?_|refine zC ?_|refine zD ?_|refine zE ?_|refine zF ?_|refine zG ?_|refine zH ?_|refine zI ?_|refine zJ ?_|refine zK ?_|refine zL ?_|refine zM rfl ?_|refine zN ?_|refine zO ?_|refine zP ?_|refine zQ ?_)
    refine x_draw (_) [0, 1, 2, 3, 4, 5, 6, 7, 8, 9, 10] (.r 0 (.r 1 (.r 2 (.r 3 (.r 4 (.r 5 (.r 6 (.r 7 (.r 8 (.r 9 (.r 10 (.q 11 (.e 12 false .nil))))))))))))) (by kernel_rfl) (by kernel_rfl) (Imp.refl _) ?_
    first | refine cx_p rfl (pv_move_slice rfl) ?_ | refine cx_p rfl (pv_move rfl) ?_
    first | refine cx_p rfl (pv_move_int rfl) ?_ | refine cx_p rfl (pv_move rfl) ?_
    first | refine cx_p rfl (pv_move_slice rfl) ?_ | refine cx_p rfl (pv_move rfl) ?_
    first | refine cx_p rfl (pv_move_int rfl) ?_ | refine cx_p rfl (pv_move rfl) ?_
    first | refine cx_p rfl (pv_ixs1z rfl rfl (by first | omega | exact Nat.le_of_ble_eq_true rfl | (simp; done) | (simp; omega))) ?_ | refine cx_p rfl (pv_ixs1 rfl rfl (by first | omega | exact Nat.le_of_ble_eq_true rfl | (simp; done) | (simp; omega))) ?_
    refine cx_load rfl rfl (by repeat constructor) (by rw [List.getElem?_toArray]; exact getM hsi) ?_
    first | refine cx_p rfl (pv_move_slice rfl) ?_ | refine cx_p rfl (pv_move rfl) ?_
    first | refine cx_p rfl (pv_move_int rfl) ?_ | refine cx_p rfl (pv_move rfl) ?_
    first | refine cx_p rfl (pv_ixs1z rfl rfl (by first | omega | exact Nat.le_of_ble_eq_true rfl | (simp; done) | (simp; omega))) ?_ | refine cx_p rfl (pv_ixs1 rfl rfl (by first | omega | exact Nat.le_of_ble_eq_true rfl | (simp; done) | (simp; omega))) ?_
    refine cx_load_sl (j := i) rfl rfl (hb.imp (by exact Imp.arr (by repeat (first | exact Arr.nil | exact Arr.stop | refine Arr.cons (by repeat constructor) ?_ | refine Arr.skip ?_)))) hA (getM hA) ?_
    first | refine cx_p rfl (pv_addn rfl rfl (by first | omega | exact Nat.le_of_ble_eq_true rfl | (simp; done) | (simp; omega) | decide)) ?_ | refine cx_p rfl (pv_add_i rfl rfl (by first | omega | exact Nat.le_of_ble_eq_true rfl | (simp; done) | (simp; omega) | decide)) ?_
    first | refine cx_q rfl (pv_ixs1z rfl rfl (by first | omega | exact Nat.le_of_ble_eq_true rfl | (simp; done) | (simp; omega))) ?_ | refine cx_q rfl (pv_ixs1 rfl rfl (by first | omega | exact Nat.le_of_ble_eq_true rfl | (simp; done) | (simp; omega))) ?_
    refine cx_e rfl ?_
    refine x_store_i rfl rfl (by repeat constructor) (by first | rfl | omega | (rw [szL]; omega) | exact Nat.le_of_ble_eq_true rfl | (simp; done) | (simp; omega)) (setL (f := nv) (l := s2)) ?_
    refine x_nil ⟨(fun hh => Bool.noConfusion hh), ?_⟩
    refine cx_nil ?_
    repeat (first|refine zA ?_|refine zB ?_|refine zC ?_|refine zD ?_|refine zE ?_|refine zF ?_|refine zG ?_|refine zH ?_|refine zI ?_|refine zJ ?_|refine zK ?_|refine zL ?_|refine zM rfl ?_|refine zN ?_|refine zO ?_|refine zP ?_|refine zQ ?_)
    refine x_reg ?_
    first | refine x_pv (pv_move_int rfl) ?_ | refine x_pv (pv_move rfl) ?_
    first | refine x_pv (pv_addn (b := 1) rfl rfl (by first | omega | exact Nat.le_of_ble_eq_true rfl | (simp; done) | (simp; omega) | decide)) ?_ | refine x_pv (pv_add_i rfl rfl (by first | omega | exact Nat.le_of_ble_eq_true rfl | (simp; done) | (simp; omega) | decide)) ?_
    first | refine x_pv (pv_assign_int rfl) ?_ | refine x_pv (pv_assign rfl) ?_
    refine x_nil ?_
    repeat (first|refine zA ?_|refine zB ?_|refine zC ?_|refine zD ?_|refine zE ?_|refine zF ?_|refine zG ?_|refine zH ?_|refine zI ?_|refine zJ ?_|refine zK ?_|refine zL ?_|refine zM rfl ?_|refine zN ?_|refine zO ?_|refine zP ?_|refine zQ ?_)
    refine x_loop_n (i + 1, s2.set i (s2[i] + lb[i])) (by first | omega | (dsimp only; omega) | (simp only []; omega)) ⟨by dsimp only; omega, by simp [hsl], bnd_set hsb hsi (by dsimp only; omega), by dsimp only; rw [valD_set, hsv, valD_take _ _ hA, Nat.add_assoc]⟩ (by exact Imp.arr (by repeat (first | exact Arr.nil | exact Arr.stop | refine Arr.cons (by repeat constructor) ?_ | refine Arr.skip ?_))) ⟨rfl, trivial⟩
  have hie : i = lb.length := by omega
  subst hie
  rw [List.take_length] at hsv
  subst hsl
  have hbb : ∀ x ∈ s2, x ≤ 1099511627776 := fun x hx => by have := hsb x hx; omega
  have hrd : Rd (cl b18 (s2.map nv).toArray 3 :: L) 1 (.slice (some ⟨b18, 0, none⟩) s2.length s2.length) s2.length (s2.map nv) := Rd.cl (o := 0) .here (by simp) (by rw [szL]; omega) (by simp; exact List.take_of_length_le (by simp))
  repeat (first|refine zA ?_|refine zB ?_|refine zC ?_|refine zD ?_|refine zE ?_|refine zF ?_|refine zG ?_|refine zH ?_|refine zI ?_|refine zJ ?_|refine zK ?_|refine zL ?_|refine zM rfl ?_|refine zN ?_|refine zO ?_|refine zP ?_|refine zQ ?_)
  refine x_reg ?_
  first | refine x_pv (pv_move_slice rfl) ?_ | refine x_pv (pv_move rfl) ?_
  refine x_call rfl (by kernel_rfl) (clean_x (n := n) (l := s2) hrd hbb h3 hn (by omega)) rfl (by repeat (first | exact Take.nil | exact Take.all | (apply Take.cons; (next => (repeat constructor); done)) | apply Take.skip)) ?_
  rintro _ _ ⟨a2, c2, d, hd, hdv, hdn, _, rfl, rfl⟩
  refine xo_app (by repeat (first | exact App.nil | apply App.cons | (apply App.flip; first | exact App.nil | apply App.cons) | exact App.any)) ?_
  first | refine x_pv (pv_assign_slice rfl) ?_ | refine x_pv (pv_assign rfl) ?_
  refine x_nil ?_
  repeat (first|refine zA ?_|refine zB ?_|refine zC ?_|refine zD ?_|refine zE ?_|refine zF ?_|refine zG ?_|refine zH ?_|refine zI ?_|refine zJ ?_|refine zK ?_|refine zL ?_|refine zM rfl ?_|refine zN ?_|refine zO ?_|refine zP ?_|refine zQ ?_)
  refine rx1 (rx_slice rfl (rx_nil)) ?_
  exact ⟨_, ⟨a2, c2, d, hd, by omega, hdn, rfl, rfl⟩, by exact Imp.arr (by repeat (first | exact Arr.nil | exact Arr.stop | refine Arr.cons (by repeat constructor) ?_ | refine Arr.skip ?_))⟩
end Go.Sl
