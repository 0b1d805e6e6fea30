/- the document's answer for the code, in digits: mul. -/
import Derived.Test.YtiebmodokjaokabRefG
set_option maxHeartbeats 4000000
set_option maxRecDepth 10000
set_option linter.unusedVariables false
set_option linter.unusedSimpArgs false
namespace Go.Sl
open Go Go.Proofs
attribute [local irreducible] cl pt own old pur ex all den denOps denS xOps xC cX CX xthen xblk xcut xloop retX resX Calls PV Rd Con
theorem mul_x {L : List Asrt} {aa ab : Option Addr} {ca cb n : Nat} {la lb : List Nat} (ha : Rd L 1 (.slice aa la.length ca) la.length (la.map nv)) (hb : Rd L 1 (.slice ab lb.length cb) lb.length (lb.map nv)) (da : Dig la) (db : Dig lb)
    (hla : la.length ≤ 1024) (hlb : lb.length ≤ 1024) (hln : la.length + lb.length ≤ n) (hn : n ≤ 4096) (hv : valD la * valD lb < 256 ^ n) :
    Con Try.prog 30 [.slice aa la.length ca, .slice ab lb.length cb] L (fun r M => ∃ a2 c2 d, Dig d ∧ valD d = valD la * valD lb ∧ d.length ≤ n ∧ r = .slice a2 d.length c2 ∧ M = own 3 1 r d.length (d.map nv) :: L) := by
  refine fn_x Try.func30 rfl rfl rfl Try.mixed (by kernel_rfl) ?_
  intro w0
  repeat (first|refine zA ?_|refine zB ?_|refine zC ?_|refine zD ?_|refine zE ?_|refine zF ?_|refine zG ?_|refine zH ?_|refine zI ?_|refine zJ ?_|refine zK ?_|refine zL ?_|refine zM rfl ?_|refine zN ?_|refine zO ?_|refine zP ?_|refine zQ ?_)
  refine x_reg ?_
  first | refine x_pv (pv_assign_slice rfl) ?_ | refine x_pv (pv_assign rfl) ?_
  refine x_nil ?_
  repeat (first|refine zA ?_|refine zB ?_|refine zC ?_|refine zD ?_|refine zE ?_|refine zF ?_|refine zG ?_|refine zH ?_|refine zI ?_|refine zJ ?_|refine zK ?_|refine zL ?_|refine zM rfl ?_|refine zN ?_|refine zO ?_|refine zP ?_|refine zQ ?_)
  refine x_reg ?_
  first | refine x_pv (pv_move_slice rfl) ?_ | refine x_pv (pv_move rfl) ?_
  first | refine x_pv (pv_len rfl) ?_ | refine x_pv (pv_len_arr) ?_ | refine x_pv (pv_len_str rfl) ?_
  first | refine x_pv (pv_move_slice rfl) ?_ | refine x_pv (pv_move rfl) ?_
  first | refine x_pv (pv_len rfl) ?_ | refine x_pv (pv_len_arr) ?_ | refine x_pv (pv_len_str rfl) ?_
  first | refine x_pv (pv_addn rfl rfl (by first | omega | exact Nat.le_of_ble_eq_true rfl | (simp; done) | (simp; omega) | decide)) ?_ | refine x_pv (pv_add_i rfl rfl (by first | omega | exact Nat.le_of_ble_eq_true rfl | (simp; done) | (simp; omega) | decide)) ?_
  refine x_mk1 (f := nv) (a := 0) rfl rfl rfl (by first | omega | exact Nat.le_of_ble_eq_true rfl | (simp; done) | (simp; omega) | decide) (by first | omega | exact Nat.le_of_ble_eq_true rfl | (simp; done) | (simp; omega) | decide) (by first | omega | exact Nat.le_of_ble_eq_true rfl | (simp; done) | (simp; omega) | decide) ?_; intro b13
  first | refine x_pv (pv_assign_slice rfl) ?_ | refine x_pv (pv_assign rfl) ?_
  refine x_nil ?_
  repeat (first|refine zA ?_|refine zB ?_|refine zC ?_|refine zD ?_|refine zE ?_|refine zF ?_|refine zG ?_|refine zH ?_|refine zI ?_|refine zJ ?_|refine zK ?_|refine zL ?_|refine zM rfl ?_|refine zN ?_|refine zO ?_|refine zP ?_|refine zQ ?_)
  refine x_reg ?_
  first | refine x_pv (pv_assign_int rfl) ?_ | refine x_pv (pv_assign rfl) ?_
  refine x_nil ?_
  repeat (first|refine zA ?_|refine zB ?_|refine zC ?_|refine zD ?_|refine zE ?_|refine zF ?_|refine zG ?_|refine zH ?_|refine zI ?_|refine zJ ?_|refine zK ?_|refine zL ?_|refine zM rfl ?_|refine zN ?_|refine zO ?_|refine zP ?_|refine zQ ?_)
  refine x_loop [(6, 7), (14, 46)] (by kernel_rfl) (fun s : Nat × List Nat => s.1 ≤ la.length ∧ s.2.length = la.length + lb.length ∧ (∀ x ∈ s.2, x ≤ 65536 * (1024 * s.1)) ∧ valD s.2 = valD (la.take s.1) * valD lb)
    (fun s => cl b13 ((s.2.map nv).toArray) 3 :: L) (fun s => [(6, .int .i64 (s.1 : Int))]) (fun s => la.length - s.1) (0, List.replicate (la.length + lb.length) 0) ⟨by show 0 ≤ _; omega, by simp, by intro x hx; simp at hx; show x ≤ 65536 * (1024 * 0); omega, by simp [valD_zeros, valD]⟩ (by exact Imp.arr (by repeat (first | exact Arr.nil | exact Arr.stop | refine Arr.cons (by repeat constructor) ?_ | refine Arr.skip ?_))) ⟨rfl, trivial⟩ ?_
  rintro ⟨i, s⟩ u2 ⟨hi, hsl, hsb, hsv⟩
  dsimp only at hi hsl hsb hsv ⊢
  repeat (first|refine zA ?_|refine zB ?_|refine zC ?_|refine zD ?_|refine zE ?_|refine zF ?_|refine zG ?_|refine zH ?_|refine zI ?_|refine zJ ?_|refine zK ?_|refine zL ?_|refine zM rfl ?_|refine zN ?_|refine zO ?_|refine zP ?_|refine zQ ?_)
  refine x_reg ?_
  first | refine x_pv (pv_move_int rfl) ?_ | refine x_pv (pv_move rfl) ?_
  first | refine x_pv (pv_move_slice rfl) ?_ | refine x_pv (pv_move rfl) ?_
  first | refine x_pv (pv_len rfl) ?_ | refine x_pv (pv_len_arr) ?_ | refine x_pv (pv_len_str rfl) ?_
  first | refine x_pv (pv_lssn rfl rfl) ?_ | refine x_pv (pv_lss rfl rfl) ?_
  refine x_nil ?_
  repeat (first|refine zA ?_|refine zB ?_|refine zC ?_|refine zD ?_|refine zE ?_|refine zF ?_|refine zG ?_|refine zH ?_|refine zI ?_|refine zJ ?_|refine zK ?_|refine zL ?_|refine zM rfl ?_|refine zN ?_|refine zO ?_|refine zP ?_|refine zQ ?_)
  refine x_cond_p rfl (fun hA => ?_) (fun hA => ?_)
  · repeat (first|refine zA ?_|refine zB ?_|refine zC ?_|refine zD ?_|refine zE ?_|refine zF ?_|refine zG ?_|refine zH ?_|refine zI ?_|refine zJ ?_|refine zK ?_|refine zL ?_|refine zM rfl ?_|refine zN ?_|refine zO ?_|refine zP ?_|refine zQ ?_)
    refine x_reg ?_
    first | refine x_pv (pv_assign_int rfl) ?_ | refine x_pv (pv_assign rfl) ?_
    refine x_nil ?_
    repeat (first|refine zA ?_|refine zB ?_|refine zC ?_|refine zD ?_|refine zE ?_|refine zF ?_|refine zG ?_|refine zH ?_|refine zI ?_|refine zJ ?_|refine zK ?_|refine zL ?_|refine zM rfl ?_|refine zN ?_|refine zO ?_|refine zP ?_|refine zQ ?_)
    refine x_loop [(7, 7), (20, 46)] (by kernel_rfl) (fun t : Nat × List Nat => t.1 ≤ lb.length ∧ t.2.length = la.length + lb.length ∧ (∀ x ∈ t.2, x ≤ 65536 * (1024 * i + t.1)) ∧ valD t.2 = valD (la.take i) * valD lb + 256 ^ i * (la[i] * valD (lb.take t.1)))
      (fun t => cl b13 ((t.2.map nv).toArray) 3 :: L) (fun t => [(7, .int .i64 (t.1 : Int))]) (fun t => lb.length - t.1) (0, s) ⟨by show 0 ≤ _; omega, hsl, hsb, by rw [hsv]; simp [valD]⟩ (by exact Imp.arr (by repeat (first | exact Arr.nil | exact Arr.stop | refine Arr.cons (by repeat constructor) ?_ | refine Arr.skip ?_))) ⟨rfl, trivial⟩ ?_
    rintro ⟨k, t⟩ u3 ⟨hk, htl, htb, htv⟩
    dsimp only at hk htl htb htv ⊢
    repeat (first|refine zA ?_|refine zB ?_|refine zC ?_|refine zD ?_|refine zE ?_|refine zF ?_|refine zG ?_|refine zH ?_|refine zI ?_|refine zJ ?_|refine zK ?_|refine zL ?_|refine zM rfl ?_|refine zN ?_|refine zO ?_|refine zP ?_|refine zQ ?_)
    refine x_reg ?_
    first | refine x_pv (pv_move_int rfl) ?_ | refine x_pv (pv_move rfl) ?_
    first | refine x_pv (pv_move_slice rfl) ?_ | refine x_pv (pv_move rfl) ?_
    first | refine x_pv (pv_len rfl) ?_ | refine x_pv (pv_len_arr) ?_ | refine x_pv (pv_len_str rfl) ?_
    first | refine x_pv (pv_lssn rfl rfl) ?_ | refine x_pv (pv_lss rfl rfl) ?_
    refine x_nil ?_
    repeat (first|refine zA ?_|refine zB ?_|refine zC ?_|refine zD ?_|refine zE ?_|refine zF ?_|refine zG ?_|refine zH ?_|refine zI ?_|refine zJ ?_|refine zK ?_|refine zL ?_|refine zM rfl ?_|refine zN ?_|refine zO ?_|refine zP ?_|refine zQ ?_)
    refine x_cond_p rfl (fun hB => ?_) (fun hB => ?_)
    · refine x_get (fun F w H => (ha.imp (by exact Imp.arr (by repeat (first | exact Arr.nil | exact Arr.stop | refine Arr.cons (by repeat constructor) ?_ | refine Arr.skip ?_)))).someAt (by omega) H) ?_
      rintro ⟨a1, a2, rfl⟩
      refine x_get (fun F w H => (hb.imp (by exact Imp.arr (by repeat (first | exact Arr.nil | exact Arr.stop | refine Arr.cons (by repeat constructor) ?_ | refine Arr.skip ?_)))).someAt (by omega) H) ?_
      rintro ⟨a3, a4, rfl⟩
      have hti : i + k < t.length := by omega
      have hx : t[i + k] ≤ 65536 * (1024 * i + k) := htb _ (List.getElem_mem hti)
      have hy : la[i] < 256 := da _ (List.getElem_mem hA)
      have hz : lb[k] < 256 := db _ (List.getElem_mem hB)
      have hp : la[i] * lb[k] ≤ 65536 := Nat.le_trans (Nat.mul_le_mul (Nat.le_of_lt hy) (Nat.le_of_lt hz)) (by omega)
      repeat (first|refine zA ?_|refine zB ?_|refine zC ?_|refine zD ?_|refine zE ?_|refine zF ?_|refine zG ?_|refine zH ?_|refine zI ?_|refine zJ ?_|refine zK ?_|refine zL ?_|refine zM rfl ?_|refine zN ?_|refine zO ?_|refine zP ?_|refine zQ ?_)
      refine x_draw (_) [0, 1, 2, 3, 4, 5, 6, 7, 8, 9, 10, 11, 12, 13, 14, 15, 16, 17, 18, 19] (.r 0 (.r 1 (.r 2 (.r 3 (.r 4 (.r 5 (.r 6 (.r 7 (.r 8 (.r 9 (.r 10 (.r 11 (.r 12 (.r 13 (.r 14 (.r 15 (.r 16 (.r 17 (.r 18 (.r 19 (.q 20 (.e 21 false .nil)))))))))))))))))))))) (by kernel_rfl) (by kernel_rfl) (Imp.refl _) ?_
      first | refine cx_p rfl (pv_move_slice rfl) ?_ | refine cx_p rfl (pv_move rfl) ?_
      first | refine cx_p rfl (pv_move_int rfl) ?_ | refine cx_p rfl (pv_move rfl) ?_
      first | refine cx_p rfl (pv_move_int rfl) ?_ | refine cx_p rfl (pv_move rfl) ?_
      first | refine cx_p rfl (pv_addn rfl rfl (by first | omega | exact Nat.le_of_ble_eq_true rfl | (simp; done) | (simp; omega) | decide)) ?_ | refine cx_p rfl (pv_add_i rfl rfl (by first | omega | exact Nat.le_of_ble_eq_true rfl | (simp; done) | (simp; omega) | decide)) ?_
      first | refine cx_p rfl (pv_move_slice rfl) ?_ | refine cx_p rfl (pv_move rfl) ?_
      first | refine cx_p rfl (pv_move_int rfl) ?_ | refine cx_p rfl (pv_move rfl) ?_
      first | refine cx_p rfl (pv_move_int rfl) ?_ | refine cx_p rfl (pv_move rfl) ?_
      first | refine cx_p rfl (pv_addn rfl rfl (by first | omega | exact Nat.le_of_ble_eq_true rfl | (simp; done) | (simp; omega) | decide)) ?_ | refine cx_p rfl (pv_add_i rfl rfl (by first | omega | exact Nat.le_of_ble_eq_true rfl | (simp; done) | (simp; omega) | decide)) ?_
      first | refine cx_p rfl (pv_ixs1z (n := i + k) rfl (int_eq (by push_cast; omega)) (by first | omega | exact Nat.le_of_ble_eq_true rfl | (simp; done) | (simp; omega))) ?_ | refine cx_p rfl (pv_ixs1 (n := i + k) rfl (int_eq (by push_cast; omega)) (by first | omega | exact Nat.le_of_ble_eq_true rfl | (simp; done) | (simp; omega))) ?_
      refine cx_load rfl rfl (by repeat constructor) (by rw [List.getElem?_toArray]; exact getM hti) ?_
      first | refine cx_p rfl (pv_move_slice rfl) ?_ | refine cx_p rfl (pv_move rfl) ?_
      first | refine cx_p rfl (pv_move_int rfl) ?_ | refine cx_p rfl (pv_move rfl) ?_
      first | refine cx_p rfl (pv_ixs1z rfl rfl (by first | omega | exact Nat.le_of_ble_eq_true rfl | (simp; done) | (simp; omega))) ?_ | refine cx_p rfl (pv_ixs1 rfl rfl (by first | omega | exact Nat.le_of_ble_eq_true rfl | (simp; done) | (simp; omega))) ?_
      refine cx_load_sl (j := i) rfl rfl (ha.imp (by exact Imp.arr (by repeat (first | exact Arr.nil | exact Arr.stop | refine Arr.cons (by repeat constructor) ?_ | refine Arr.skip ?_)))) hA (getM hA) ?_
      first | refine cx_p rfl (pv_move_slice rfl) ?_ | refine cx_p rfl (pv_move rfl) ?_
      first | refine cx_p rfl (pv_move_int rfl) ?_ | refine cx_p rfl (pv_move rfl) ?_
      first | refine cx_p rfl (pv_ixs1z rfl rfl (by first | omega | exact Nat.le_of_ble_eq_true rfl | (simp; done) | (simp; omega))) ?_ | refine cx_p rfl (pv_ixs1 rfl rfl (by first | omega | exact Nat.le_of_ble_eq_true rfl | (simp; done) | (simp; omega))) ?_
      refine cx_load_sl (j := k) rfl rfl (hb.imp (by exact Imp.arr (by repeat (first | exact Arr.nil | exact Arr.stop | refine Arr.cons (by repeat constructor) ?_ | refine Arr.skip ?_)))) hB (getM hB) ?_
      first | refine cx_p rfl (pv_muln rfl rfl (by first | omega | exact Nat.le_of_ble_eq_true rfl | (simp; done) | (simp; omega) | decide)) ?_ | refine cx_p rfl (pv_mul_i rfl rfl (by first | omega | exact Nat.le_of_ble_eq_true rfl | (simp; done) | (simp; omega) | decide)) ?_
      first | refine cx_p rfl (pv_addn rfl rfl (by first | omega | exact Nat.le_of_ble_eq_true rfl | (simp; done) | (simp; omega) | decide)) ?_ | refine cx_p rfl (pv_add_i rfl rfl (by first | omega | exact Nat.le_of_ble_eq_true rfl | (simp; done) | (simp; omega) | decide)) ?_
      first | refine cx_q rfl (pv_ixs1z (n := i + k) rfl (int_eq (by push_cast; omega)) (by first | omega | exact Nat.le_of_ble_eq_true rfl | (simp; done) | (simp; omega))) ?_ | refine cx_q rfl (pv_ixs1 (n := i + k) rfl (int_eq (by push_cast; omega)) (by first | omega | exact Nat.le_of_ble_eq_true rfl | (simp; done) | (simp; omega))) ?_
      refine cx_e rfl ?_
      refine x_store_i rfl rfl (by repeat constructor) (by first | rfl | omega | (rw [szL]; omega) | exact Nat.le_of_ble_eq_true rfl | (simp; done) | (simp; omega)) (setL (f := nv) (l := t)) ?_
      refine x_nil ⟨(fun hh => Bool.noConfusion hh), ?_⟩
      refine cx_nil ?_
      repeat (first|refine zA ?_|refine zB ?_|refine zC ?_|refine zD ?_|refine zE ?_|refine zF ?_|refine zG ?_|refine zH ?_|refine zI ?_|refine zJ ?_|refine zK ?_|refine zL ?_|refine zM rfl ?_|refine zN ?_|refine zO ?_|refine zP ?_|refine zQ ?_)
      refine x_reg ?_
      first | refine x_pv (pv_move_int rfl) ?_ | refine x_pv (pv_move rfl) ?_
      first | refine x_pv (pv_addn (b := 1) rfl rfl (by first | omega | exact Nat.le_of_ble_eq_true rfl | (simp; done) | (simp; omega) | decide)) ?_ | refine x_pv (pv_add_i rfl rfl (by first | omega | exact Nat.le_of_ble_eq_true rfl | (simp; done) | (simp; omega) | decide)) ?_
      first | refine x_pv (pv_assign_int rfl) ?_ | refine x_pv (pv_assign rfl) ?_
      refine x_nil ?_
      repeat (first|refine zA ?_|refine zB ?_|refine zC ?_|refine zD ?_|refine zE ?_|refine zF ?_|refine zG ?_|refine zH ?_|refine zI ?_|refine zJ ?_|refine zK ?_|refine zL ?_|refine zM rfl ?_|refine zN ?_|refine zO ?_|refine zP ?_|refine zQ ?_)
      refine x_loop_n (k + 1, t.set (i + k) (t[i + k] + la[i] * lb[k])) (by first | omega | (dsimp only; omega) | (simp only []; omega)) ⟨by dsimp only; omega, by simp [htl], bnd_set htb hti (by dsimp only; omega), ?_⟩ (by exact Imp.arr (by repeat (first | exact Arr.nil | exact Arr.stop | refine Arr.cons (by repeat constructor) ?_ | refine Arr.skip ?_))) ⟨rfl, trivial⟩
      dsimp only
      rw [valD_set, htv, valD_take _ _ hB, Nat.pow_add]
      simp only [Nat.mul_add, Nat.add_assoc]
      rw [show 256 ^ i * (la[i] * (256 ^ k * lb[k])) = 256 ^ i * 256 ^ k * (la[i] * lb[k]) by rw [Nat.mul_left_comm la[i], Nat.mul_assoc]]
    · have hke : k = lb.length := by omega
      subst hke
      rw [List.take_length] at htv
      repeat (first|refine zA ?_|refine zB ?_|refine zC ?_|refine zD ?_|refine zE ?_|refine zF ?_|refine zG ?_|refine zH ?_|refine zI ?_|refine zJ ?_|refine zK ?_|refine zL ?_|refine zM rfl ?_|refine zN ?_|refine zO ?_|refine zP ?_|refine zQ ?_)
      refine x_reg ?_
      first | refine x_pv (pv_move_int rfl) ?_ | refine x_pv (pv_move rfl) ?_
      first | refine x_pv (pv_addn (b := 1) rfl rfl (by first | omega | exact Nat.le_of_ble_eq_true rfl | (simp; done) | (simp; omega) | decide)) ?_ | refine x_pv (pv_add_i rfl rfl (by first | omega | exact Nat.le_of_ble_eq_true rfl | (simp; done) | (simp; omega) | decide)) ?_
      first | refine x_pv (pv_assign_int rfl) ?_ | refine x_pv (pv_assign rfl) ?_
      refine x_nil ?_
      repeat (first|refine zA ?_|refine zB ?_|refine zC ?_|refine zD ?_|refine zE ?_|refine zF ?_|refine zG ?_|refine zH ?_|refine zI ?_|refine zJ ?_|refine zK ?_|refine zL ?_|refine zM rfl ?_|refine zN ?_|refine zO ?_|refine zP ?_|refine zQ ?_)
      refine x_loop_n (i + 1, t) (by first | omega | (dsimp only; omega) | (simp only []; omega)) ⟨by dsimp only; omega, htl, fun x hx => by have := htb x hx; dsimp only; omega, by dsimp only; rw [htv, valD_take _ _ hA, Nat.add_mul, Nat.mul_assoc]⟩ (by exact Imp.arr (by repeat (first | exact Arr.nil | exact Arr.stop | refine Arr.cons (by repeat constructor) ?_ | refine Arr.skip ?_))) ⟨rfl, trivial⟩
  · have hie : i = la.length := by omega
    subst hie
    rw [List.take_length] at hsv
    have hbb : ∀ x ∈ s, x ≤ 1099511627776 := fun x hx => by have := hsb x hx; omega
    have hrd : Rd (cl b13 (s.map nv).toArray 3 :: L) 1 (.slice (some ⟨b13, 0, none⟩) s.length s.length) s.length (s.map nv) := Rd.cl (o := 0) .here (by simp) (by rw [szL]; omega) (by simp; exact List.take_of_length_le (by simp))
    rw [← hsl]
    repeat (first|refine zA ?_|refine zB ?_|refine zC ?_|refine zD ?_|refine zE ?_|refine zF ?_|refine zG ?_|refine zH ?_|refine zI ?_|refine zJ ?_|refine zK ?_|refine zL ?_|refine zM rfl ?_|refine zN ?_|refine zO ?_|refine zP ?_|refine zQ ?_)
    refine x_reg ?_
    first | refine x_pv (pv_move_slice rfl) ?_ | refine x_pv (pv_move rfl) ?_
    refine x_call rfl (by kernel_rfl) (clean_x (n := n) (l := s) hrd hbb (by omega) hn (by rw [hsv]; exact hv)) rfl (by repeat (first | exact Take.nil | exact Take.all | (apply Take.cons; (next => (repeat constructor); done)) | apply Take.skip)) ?_
    rintro _ _ ⟨a2, c2, d, hd, hdv, hdn, _, rfl, rfl⟩
    refine xo_app (by repeat (first | exact App.nil | apply App.cons | (apply App.flip; first | exact App.nil | apply App.cons) | exact App.any)) ?_
    first | refine x_pv (pv_assign_slice rfl) ?_ | refine x_pv (pv_assign rfl) ?_
    refine x_nil ?_
    repeat (first|refine zA ?_|refine zB ?_|refine zC ?_|refine zD ?_|refine zE ?_|refine zF ?_|refine zG ?_|refine zH ?_|refine zI ?_|refine zJ ?_|refine zK ?_|refine zL ?_|refine zM rfl ?_|refine zN ?_|refine zO ?_|refine zP ?_|refine zQ ?_)
    refine rx1 (rx_slice rfl (rx_nil)) ?_
    exact ⟨_, ⟨a2, c2, d, hd, by rw [hdv, hsv], hdn, rfl, rfl⟩, by exact Imp.arr (by repeat (first | exact Arr.nil | exact Arr.stop | refine Arr.cons (by repeat constructor) ?_ | refine Arr.skip ?_))⟩
end Go.Sl
