/- trystlaw06: TagShifts, walked. -/
import Derived.Test.YtiebmodokjaokabTagE
import Derived.Test.YtiebmodokjaokabEngZ
set_option maxHeartbeats 4000000
set_option maxRecDepth 10000
set_option linter.unusedVariables false
set_option linter.unusedSimpArgs false
namespace Go.Sl
open Go Go.Proofs
attribute [local irreducible] cl pt own old pur ex all den denOps denS xOps xC cX CX xthen xblk xcut xloop retX resX Calls PV Rd Con
theorem rs_one {L L' : List Asrt} {b : Nat} {v : Value} {l : List Byte} (hm : Has L (cl b #[v] 31) L') (hv : Bs L v l) : Rs L (.slice (some ⟨b, 0, none⟩) 1 1) [(v, l)] :=
  Rs.cl (o := 0) (ps := [(v, l)]) hm (by simp) rfl (by simp) (by simp) (by intro x hx; simp only [List.mem_cons, List.not_mem_nil, or_false] at hx; subst hx; exact hv)
theorem tsum1_c {L L' : List Asrt} (key : List Byte) (hk : key.length = 32) {b : Nat} {v : Value} {l : List Byte} (hm : Has L (cl b #[v] 31) L') (hv : Bs L v l) :
    Con Try.prog 13 [.agg (key.map u8b).toArray, .slice (some ⟨b, 0, none⟩) 1 1] L (fun r M => r = .agg ((code key l).map u8b).toArray ∧ L = M) := by
  have h := tsum_c (L := L) key hk (rs_one hm hv) (by simp)
  have e : joinB [(v, l)] = l := by simp [joinB]
  rw [e] at h; exact h
/-- Codes under keys with one r are as far apart as their s. -/
theorem shifts_law (key other m : List Byte) (hk : key.length = 32) (ho : other.length = 32) :
    minusL (code key m) (code (key.take 16 ++ other.drop 16) m) = minusL (key.drop 16) ((key.take 16 ++ other.drop 16).drop 16) := by
  have hl : (key.take 16 ++ other.drop 16).length = 32 := by simp; omega
  have hd : (key.take 16 ++ other.drop 16).drop 16 = other.drop 16 := by
    rw [List.drop_append_of_le_length (by simp; omega), List.drop_of_length_le (by simp; omega)]; rfl
  have hr : rN (key.take 16 ++ other.drop 16) = rN key := by
    have e1 : (key.take 16 ++ other.drop 16).take 8 = key.take 8 := by
      rw [List.take_append_of_le_length (by simp; omega), List.take_take]; rfl
    have e2 : ((key.take 16 ++ other.drop 16).drop 8).take 8 = (key.drop 8).take 8 := by
      rw [List.drop_append_of_le_length (by simp; omega), List.take_append_of_le_length (by simp; omega), List.drop_take, List.take_take]; rfl
    unfold rN newS
    rw [e1, e2]
  have v1 := code_val key m hk
  have v2 := code_val (key.take 16 ++ other.drop 16) m hl
  have hp : polyN (key.take 16 ++ other.drop 16) m = polyN key m := by unfold polyN; rw [hr]
  rw [hp] at v2
  have c1 := code_len key m
  have c2 := code_len (key.take 16 ++ other.drop 16) m
  have k1 : (key.drop 16).length = 16 := by simp; omega
  have k2 : (other.drop 16).length = 16 := by simp; omega
  apply leN_inj
  · unfold minusL; rw [minusS_len, minusS_len]
  · rw [minusL_val _ _ c1 c2, minusL_val _ _ k1 (by rw [hd]; exact k2), v1, v2]
    have s1 := leN_lt (key.drop 16)
    have s2 := leN_lt (other.drop 16)
    rw [k1, show (256 : Nat) ^ 16 = 340282366920938463463374607431768211456 by decide] at s1
    rw [k2, show (256 : Nat) ^ 16 = 340282366920938463463374607431768211456 by decide] at s2
    unfold sN
    rw [hd]
    omega
theorem shifts_x (W : World) (key : List Byte) (hk : key.length = 32) (other : List Byte) (ho : other.length = 32) (v : Value) (m : List Byte) (hin : InB W v m) : Con Try.prog 8 [.agg (key.map u8b).toArray, .agg (other.map u8b).toArray, v] [old W] (fun r M => r = .bool true ∧ [old W] = M) := by
  obtain ⟨va, vc, rfl, hvl, hvc⟩ := hin.sh
  have hml := hin.len
  refine fn_x Try.func8 rfl rfl rfl Try.mixed (by kernel_rfl) ?_
  intro w0
  repeat (first|refine zA ?_|refine zB ?_|refine zC ?_|refine zD ?_|refine zE ?_|refine zF ?_|refine zG ?_|refine zH ?_|refine zI ?_|refine zJ ?_|refine zK ?_|refine zL ?_|refine zM rfl ?_|refine zN ?_|refine zO ?_|refine zP ?_|refine zQ ?_)
  refine x_reg ?_
  refine x_box_a rfl ?_; intro b3
  refine x_box_a rfl ?_; intro b4
  first | refine x_pv (pv_assign_bool rfl) ?_ | refine x_pv (pv_assign rfl) ?_
  refine x_nil ?_
  repeat (first|refine zA ?_|refine zB ?_|refine zC ?_|refine zD ?_|refine zE ?_|refine zF ?_|refine zG ?_|refine zH ?_|refine zI ?_|refine zJ ?_|refine zK ?_|refine zL ?_|refine zM rfl ?_|refine zN ?_|refine zO ?_|refine zP ?_|refine zQ ?_)
  refine x_reg ?_
  refine x_call rfl (by kernel_rfl) (works_x) rfl (by repeat (first | exact Take.nil | exact Take.all | (apply Take.cons; (next => repeat constructor; done)) | apply Take.skip)) ?_
  rintro _ _ ⟨rfl, rfl⟩
  refine xo_app (by repeat (first | exact App.nil | apply App.cons | (apply App.flip; first | exact App.nil | apply App.cons) | exact App.any)) ?_
  first | refine x_pv (pv_not_p rfl) ?_ | refine x_pv (pv_not rfl) ?_
  refine x_isF 11 rfl (rfl) ?_
  refine x_nil ?_
  repeat (first|refine zA ?_|refine zB ?_|refine zC ?_|refine zD ?_|refine zE ?_|refine zF ?_|refine zG ?_|refine zH ?_|refine zI ?_|refine zJ ?_|refine zK ?_|refine zL ?_|refine zM rfl ?_|refine zN ?_|refine zO ?_|refine zP ?_|refine zQ ?_)
  refine x_cond_f rfl ?_
  repeat (first|refine zA ?_|refine zB ?_|refine zC ?_|refine zD ?_|refine zE ?_|refine zF ?_|refine zG ?_|refine zH ?_|refine zI ?_|refine zJ ?_|refine zK ?_|refine zL ?_|refine zM rfl ?_|refine zN ?_|refine zO ?_|refine zP ?_|refine zQ ?_)
  refine x_reg ?_
  first | refine x_pv (pv_assign_int rfl) ?_ | refine x_pv (pv_assign rfl) ?_
  refine x_nil ?_
  repeat (first|refine zA ?_|refine zB ?_|refine zC ?_|refine zD ?_|refine zE ?_|refine zF ?_|refine zG ?_|refine zH ?_|refine zI ?_|refine zJ ?_|refine zK ?_|refine zL ?_|refine zM rfl ?_|refine zN ?_|refine zO ?_|refine zP ?_|refine zQ ?_)
  refine x_loop [(7, 7), (12, 20)] (by kernel_rfl) (fun i : Nat => i ≤ 16) (fun i => [cl b4 ((key.take i ++ other.drop i).map u8b).toArray 24, cl b3 (key.map u8b).toArray 24, old W])
    (fun i => [(7, .int .i64 (i : Int))]) (fun i => 16 - i) 0 (by omega) (by exact Imp.arr (by repeat (first | exact Arr.nil | exact Arr.stop | refine Arr.cons (by repeat constructor) ?_ | refine Arr.skip ?_))) ⟨rfl, trivial⟩ ?_
  intro i u hi
  have hol : (key.take i ++ other.drop i).length = 32 := by simp; omega
  repeat (first|refine zA ?_|refine zB ?_|refine zC ?_|refine zD ?_|refine zE ?_|refine zF ?_|refine zG ?_|refine zH ?_|refine zI ?_|refine zJ ?_|refine zK ?_|refine zL ?_|refine zM rfl ?_|refine zN ?_|refine zO ?_|refine zP ?_|refine zQ ?_)
  refine x_reg ?_
  first | refine x_pv (pv_move_int rfl) ?_ | refine x_pv (pv_move rfl) ?_
  first | refine x_pv (pv_lssn (b := 16) rfl rfl) ?_ | refine x_pv (pv_lss rfl rfl) ?_
  refine x_nil ?_
  repeat (first|refine zA ?_|refine zB ?_|refine zC ?_|refine zD ?_|refine zE ?_|refine zF ?_|refine zG ?_|refine zH ?_|refine zI ?_|refine zJ ?_|refine zK ?_|refine zL ?_|refine zM rfl ?_|refine zN ?_|refine zO ?_|refine zP ?_|refine zQ ?_)
  refine x_cond_p rfl (fun hB => ?_) (fun hB => ?_)
  · have hset : (key.take i ++ other.drop i).set i key[i] = key.take (i + 1) ++ other.drop (i + 1) := by
      rw [List.set_append_right _ _ (by simp; omega), show i - (key.take i).length = 0 by simp; omega, List.drop_eq_getElem_cons (show i < other.length by omega), List.take_succ_eq_append_getElem (show i < key.length by omega), List.append_assoc]
      rfl
    repeat (first|refine zA ?_|refine zB ?_|refine zC ?_|refine zD ?_|refine zE ?_|refine zF ?_|refine zG ?_|refine zH ?_|refine zI ?_|refine zJ ?_|refine zK ?_|refine zL ?_|refine zM rfl ?_|refine zN ?_|refine zO ?_|refine zP ?_|refine zQ ?_)
    refine x_reg ?_
    first | refine x_pv (pv_move_int rfl) ?_ | refine x_pv (pv_move rfl) ?_
    first | refine x_pv (pv_move_int rfl) ?_ | refine x_pv (pv_move rfl) ?_
    first | refine x_pv (pv_ixa1z rfl rfl (by first | omega | exact Nat.le_of_ble_eq_true rfl | (simp; done) | (simp; omega))) ?_ | refine x_pv (pv_ixa1 rfl rfl (by first | omega | exact Nat.le_of_ble_eq_true rfl | (simp; done) | (simp; omega))) ?_
    refine x_load rfl (by repeat constructor) (getL (f := u8b) (l := key) (by omega)) ?_
    first | refine x_pv (pv_ixa1z rfl rfl (by first | omega | exact Nat.le_of_ble_eq_true rfl | (simp; done) | (simp; omega))) ?_ | refine x_pv (pv_ixa1 rfl rfl (by first | omega | exact Nat.le_of_ble_eq_true rfl | (simp; done) | (simp; omega))) ?_
    refine x_store_i rfl rfl (by repeat constructor) (by first | rfl | omega | (rw [szL]; omega) | exact Nat.le_of_ble_eq_true rfl | (simp; done) | (simp; omega)) (setL (f := u8b) (l := key.take i ++ other.drop i)) ?_
    refine x_nil ?_
    repeat (first|refine zA ?_|refine zB ?_|refine zC ?_|refine zD ?_|refine zE ?_|refine zF ?_|refine zG ?_|refine zH ?_|refine zI ?_|refine zJ ?_|refine zK ?_|refine zL ?_|refine zM rfl ?_|refine zN ?_|refine zO ?_|refine zP ?_|refine zQ ?_)
    rw [hset]
    repeat (first|refine zA ?_|refine zB ?_|refine zC ?_|refine zD ?_|refine zE ?_|refine zF ?_|refine zG ?_|refine zH ?_|refine zI ?_|refine zJ ?_|refine zK ?_|refine zL ?_|refine zM rfl ?_|refine zN ?_|refine zO ?_|refine zP ?_|refine zQ ?_)
    refine x_reg ?_
    first | refine x_pv (pv_move_int rfl) ?_ | refine x_pv (pv_move rfl) ?_
    first | refine x_pv (pv_addn (b := 1) rfl rfl (by first | omega | exact Nat.le_of_ble_eq_true rfl | (simp; done) | (simp; omega) | decide)) ?_ | refine x_pv (pv_add_i rfl rfl (by first | omega | exact Nat.le_of_ble_eq_true rfl | (simp; done) | (simp; omega) | decide)) ?_
    first | refine x_pv (pv_assign_int rfl) ?_ | refine x_pv (pv_assign rfl) ?_
    refine x_nil ?_
    repeat (first|refine zA ?_|refine zB ?_|refine zC ?_|refine zD ?_|refine zE ?_|refine zF ?_|refine zG ?_|refine zH ?_|refine zI ?_|refine zJ ?_|refine zK ?_|refine zL ?_|refine zM rfl ?_|refine zN ?_|refine zO ?_|refine zP ?_|refine zQ ?_)
    exact x_loop_n (i + 1) (by first | omega | (dsimp only; omega) | (simp only []; omega)) (by first | omega | (dsimp only; omega) | (simp only []; omega)) (by exact Imp.arr (by repeat (first | exact Arr.nil | exact Arr.stop | refine Arr.cons (by repeat constructor) ?_ | refine Arr.skip ?_))) ⟨rfl, trivial⟩
  · have hi16 : i = 16 := by omega
    subst hi16
    generalize hoth : key.take 16 ++ other.drop 16 = oth at hol
    repeat (first|refine zA ?_|refine zB ?_|refine zC ?_|refine zD ?_|refine zE ?_|refine zF ?_|refine zG ?_|refine zH ?_|refine zI ?_|refine zJ ?_|refine zK ?_|refine zL ?_|refine zM rfl ?_|refine zN ?_|refine zO ?_|refine zP ?_|refine zQ ?_)
    refine x_draw ([cl b3 (key.map u8b).toArray 24]) [0, 1, 2, 3, 4, 5] (.r 0 (.r 1 (.e 2 true (.e 3 true (.e 4 true (.a 5 (.e 6 false .nil))))))) (by kernel_rfl) (by kernel_rfl) (Imp.arr (by repeat (first | exact Arr.nil | exact Arr.stop | refine Arr.cons (by repeat constructor) ?_ | refine Arr.skip ?_))) ?_
    first | refine cx_load_all rfl rfl (by repeat constructor) (by first | rfl | omega | (rw [szL]; omega) | exact Nat.le_of_ble_eq_true rfl | (simp; done) | (simp; omega)) ?_ | refine cx_load_agg rfl rfl (by repeat constructor) (by first | rfl | omega | (rw [szL]; omega) | exact Nat.le_of_ble_eq_true rfl | (simp; done) | (simp; omega)) rfl ?_
    first | refine cx_p rfl (pv_move_slice rfl) ?_ | refine cx_p rfl (pv_move rfl) ?_
    refine cx_e rfl ?_
    refine x_call rfl (by kernel_rfl) (copyBytes_x (L := [old W]) (hin.bs .here) (by omega)) rfl (by repeat (first | exact Take.nil | exact Take.all | (apply Take.cons; (next => repeat constructor; done)) | apply Take.skip)) ?_
    rintro _ _ ⟨a1, c1, rfl, rfl⟩
    refine xo_app (by repeat (first | exact App.nil | apply App.cons | (apply App.flip; first | exact App.nil | apply App.cons) | exact App.any)) ?_
    refine x_nil ⟨fun _ => Imp.arr (by repeat (first | exact Arr.nil | exact Arr.stop | refine Arr.cons (by repeat constructor) ?_ | refine Arr.skip ?_)), ?_⟩
    refine cx_e rfl ?_
    refine x_buildSlice (cs := #[.slice _ _ _]) (by omega) (by omega) rfl ?_; intro b24
    refine x_nil ⟨fun _ => Imp.arr (by repeat (first | exact Arr.nil | exact Arr.stop | refine Arr.cons (by repeat constructor) ?_ | refine Arr.skip ?_)), ?_⟩
    refine cx_e rfl ?_
    refine x_call rfl (by kernel_rfl) (tsum1_c (L := [cl b24 #[.slice a1 m.length c1] 31, own 5 1 (.slice a1 m.length c1) m.length (m.map u8b)]) key hk (by repeat constructor) (Bs.own (by repeat constructor))) rfl (by repeat (first | exact Take.nil | exact Take.all | (apply Take.cons; (next => repeat constructor; done)) | apply Take.skip)) ?_
    rintro _ _ ⟨rfl, rfl⟩
    refine xo_app (by repeat (first | exact App.nil | apply App.cons | (apply App.flip; first | exact App.nil | apply App.cons) | exact App.any)) ?_
    refine x_nil ⟨fun _ => Imp.arr (by repeat (first | exact Arr.nil | exact Arr.stop | refine Arr.cons (by repeat constructor) ?_ | refine Arr.skip ?_)), ?_⟩
    refine cx_a rfl (cs := ((List.replicate 16 0#8).map u8b).toArray) rfl ?_; intro b8
    refine cx_e rfl ?_
    first | refine x_store_all rfl rfl (by repeat constructor) (by first | rfl | omega | (rw [szL]; omega) | exact Nat.le_of_ble_eq_true rfl | (simp; done) | (simp; omega)) (by first | rfl | exact oneM_u8 _ | exact oneL_u8 _ | (simp [oneC]; done)) (by first | rfl | omega | (rw [szL]; omega) | exact Nat.le_of_ble_eq_true rfl | (simp; done) | (simp; omega)) ?_ | refine x_store_agg rfl rfl (by repeat constructor) (by first | rfl | omega | (rw [szL]; omega) | exact Nat.le_of_ble_eq_true rfl | (simp; done) | (simp; omega)) (by first | rfl | exact oneM_u8 _ | exact oneL_u8 _ | (simp [oneC]; done)) (by first | rfl | omega | (rw [szL]; omega) | exact Nat.le_of_ble_eq_true rfl | (simp; done) | (simp; omega)) rfl ?_
    refine x_nil ⟨(fun hh => Bool.noConfusion hh), ?_⟩
    refine cx_nil ?_
    repeat (first|refine zA ?_|refine zB ?_|refine zC ?_|refine zD ?_|refine zE ?_|refine zF ?_|refine zG ?_|refine zH ?_|refine zI ?_|refine zJ ?_|refine zK ?_|refine zL ?_|refine zM rfl ?_|refine zN ?_|refine zO ?_|refine zP ?_|refine zQ ?_)
    refine x_draw ([cl b4 (oth.map u8b).toArray 24]) [0, 1, 2, 3, 4, 5] (.r 0 (.r 1 (.e 2 true (.e 3 true (.e 4 true (.a 5 (.e 6 false .nil))))))) (by kernel_rfl) (by kernel_rfl) (Imp.arr (by repeat (first | exact Arr.nil | exact Arr.stop | refine Arr.cons (by repeat constructor) ?_ | refine Arr.skip ?_))) ?_
    first | refine cx_load_all rfl rfl (by repeat constructor) (by first | rfl | omega | (rw [szL]; omega) | exact Nat.le_of_ble_eq_true rfl | (simp; done) | (simp; omega)) ?_ | refine cx_load_agg rfl rfl (by repeat constructor) (by first | rfl | omega | (rw [szL]; omega) | exact Nat.le_of_ble_eq_true rfl | (simp; done) | (simp; omega)) rfl ?_
    first | refine cx_p rfl (pv_move_slice rfl) ?_ | refine cx_p rfl (pv_move rfl) ?_
    refine cx_e rfl ?_
    refine x_call rfl (by kernel_rfl) (copyBytes_x (L := [old W]) (hin.bs .here) (by omega)) rfl (by repeat (first | exact Take.nil | exact Take.all | (apply Take.cons; (next => repeat constructor; done)) | apply Take.skip)) ?_
    rintro _ _ ⟨a2, c2, rfl, rfl⟩
    refine xo_app (by repeat (first | exact App.nil | apply App.cons | (apply App.flip; first | exact App.nil | apply App.cons) | exact App.any)) ?_
    refine x_nil ⟨fun _ => Imp.arr (by repeat (first | exact Arr.nil | exact Arr.stop | refine Arr.cons (by repeat constructor) ?_ | refine Arr.skip ?_)), ?_⟩
    refine cx_e rfl ?_
    refine x_buildSlice (cs := #[.slice _ _ _]) (by omega) (by omega) rfl ?_; intro b29
    refine x_nil ⟨fun _ => Imp.arr (by repeat (first | exact Arr.nil | exact Arr.stop | refine Arr.cons (by repeat constructor) ?_ | refine Arr.skip ?_)), ?_⟩
    refine cx_e rfl ?_
    refine x_call rfl (by kernel_rfl) (tsum1_c (L := [cl b29 #[.slice a2 m.length c2] 31, own 5 1 (.slice a2 m.length c2) m.length (m.map u8b)]) oth hol (by repeat constructor) (Bs.own (by repeat constructor))) rfl (by repeat (first | exact Take.nil | exact Take.all | (apply Take.cons; (next => repeat constructor; done)) | apply Take.skip)) ?_
    rintro _ _ ⟨rfl, rfl⟩
    refine xo_app (by repeat (first | exact App.nil | apply App.cons | (apply App.flip; first | exact App.nil | apply App.cons) | exact App.any)) ?_
    refine x_nil ⟨fun _ => Imp.arr (by repeat (first | exact Arr.nil | exact Arr.stop | refine Arr.cons (by repeat constructor) ?_ | refine Arr.skip ?_)), ?_⟩
    refine cx_a rfl (cs := ((List.replicate 16 0#8).map u8b).toArray) rfl ?_; intro b9
    refine cx_e rfl ?_
    first | refine x_store_all rfl rfl (by repeat constructor) (by first | rfl | omega | (rw [szL]; omega) | exact Nat.le_of_ble_eq_true rfl | (simp; done) | (simp; omega)) (by first | rfl | exact oneM_u8 _ | exact oneL_u8 _ | (simp [oneC]; done)) (by first | rfl | omega | (rw [szL]; omega) | exact Nat.le_of_ble_eq_true rfl | (simp; done) | (simp; omega)) ?_ | refine x_store_agg rfl rfl (by repeat constructor) (by first | rfl | omega | (rw [szL]; omega) | exact Nat.le_of_ble_eq_true rfl | (simp; done) | (simp; omega)) (by first | rfl | exact oneM_u8 _ | exact oneL_u8 _ | (simp [oneC]; done)) (by first | rfl | omega | (rw [szL]; omega) | exact Nat.le_of_ble_eq_true rfl | (simp; done) | (simp; omega)) rfl ?_
    refine x_nil ⟨(fun hh => Bool.noConfusion hh), ?_⟩
    refine cx_nil ?_
    repeat (first|refine zA ?_|refine zB ?_|refine zC ?_|refine zD ?_|refine zE ?_|refine zF ?_|refine zG ?_|refine zH ?_|refine zI ?_|refine zJ ?_|refine zK ?_|refine zL ?_|refine zM rfl ?_|refine zN ?_|refine zO ?_|refine zP ?_|refine zQ ?_)
    have hA := code_len key m
    have hB' := code_len oth m
    have hC : (key.drop 16).length = 16 := by simp; omega
    have hD : (oth.drop 16).length = 16 := by simp; omega
    have hM : ∀ a b, (minusL a b).length = 16 := fun a b => by unfold minusL; exact minusS_len a b 16
    repeat (first|refine zA ?_|refine zB ?_|refine zC ?_|refine zD ?_|refine zE ?_|refine zF ?_|refine zG ?_|refine zH ?_|refine zI ?_|refine zJ ?_|refine zK ?_|refine zL ?_|refine zM rfl ?_|refine zN ?_|refine zO ?_|refine zP ?_|refine zQ ?_)
    refine x_draw (_) [0, 1, 2, 3, 4, 5] (.r 0 (.r 1 (.r 3 (.r 5 (.e 2 true (.e 4 true (.e 6 false (.e 7 false (.q 8 (.q 9 .nil)))))))))) (by kernel_rfl) (by kernel_rfl) (Imp.refl _) ?_
    first | refine cx_load_all rfl rfl (by repeat constructor) (by first | rfl | omega | (rw [szL]; omega) | exact Nat.le_of_ble_eq_true rfl | (simp; done) | (simp; omega)) ?_ | refine cx_load_agg rfl rfl (by repeat constructor) (by first | rfl | omega | (rw [szL]; omega) | exact Nat.le_of_ble_eq_true rfl | (simp; done) | (simp; omega)) rfl ?_
    first | refine cx_load_all rfl rfl (by repeat constructor) (by first | rfl | omega | (rw [szL]; omega) | exact Nat.le_of_ble_eq_true rfl | (simp; done) | (simp; omega)) ?_ | refine cx_load_agg rfl rfl (by repeat constructor) (by first | rfl | omega | (rw [szL]; omega) | exact Nat.le_of_ble_eq_true rfl | (simp; done) | (simp; omega)) rfl ?_
    first | refine cx_load_all rfl rfl (by repeat constructor) (by first | rfl | omega | (rw [szL]; omega) | exact Nat.le_of_ble_eq_true rfl | (simp; done) | (simp; omega)) ?_ | refine cx_load_agg rfl rfl (by repeat constructor) (by first | rfl | omega | (rw [szL]; omega) | exact Nat.le_of_ble_eq_true rfl | (simp; done) | (simp; omega)) rfl ?_
    first | refine cx_load_all rfl rfl (by repeat constructor) (by first | rfl | omega | (rw [szL]; omega) | exact Nat.le_of_ble_eq_true rfl | (simp; done) | (simp; omega)) ?_ | refine cx_load_agg rfl rfl (by repeat constructor) (by first | rfl | omega | (rw [szL]; omega) | exact Nat.le_of_ble_eq_true rfl | (simp; done) | (simp; omega)) rfl ?_
    refine cx_e rfl ?_
    refine x_call rfl (by kernel_rfl) (minus_x _ _ hA hB') rfl (by repeat (first | exact Take.nil | exact Take.all | (apply Take.cons; (next => repeat constructor; done)) | apply Take.skip)) ?_
    rintro _ _ ⟨rfl, rfl⟩
    refine xo_app (by repeat (first | exact App.nil | apply App.cons | (apply App.flip; first | exact App.nil | apply App.cons) | exact App.any)) ?_
    refine x_nil ⟨fun _ => Imp.arr (by repeat (first | exact Arr.nil | exact Arr.stop | refine Arr.cons (by repeat constructor) ?_ | refine Arr.skip ?_)), ?_⟩
    refine cx_e rfl ?_
    refine x_call rfl (by kernel_rfl) (second_x key hk) rfl (by repeat (first | exact Take.nil | exact Take.all | (apply Take.cons; (next => repeat constructor; done)) | apply Take.skip)) ?_
    rintro _ _ ⟨rfl, rfl⟩
    refine xo_app (by repeat (first | exact App.nil | apply App.cons | (apply App.flip; first | exact App.nil | apply App.cons) | exact App.any)) ?_
    refine x_nil ⟨fun _ => Imp.arr (by repeat (first | exact Arr.nil | exact Arr.stop | refine Arr.cons (by repeat constructor) ?_ | refine Arr.skip ?_)), ?_⟩
    refine cx_e rfl ?_
    refine x_call rfl (by kernel_rfl) (second_x oth hol) rfl (by repeat (first | exact Take.nil | exact Take.all | (apply Take.cons; (next => repeat constructor; done)) | apply Take.skip)) ?_
    rintro _ _ ⟨rfl, rfl⟩
    refine xo_app (by repeat (first | exact App.nil | apply App.cons | (apply App.flip; first | exact App.nil | apply App.cons) | exact App.any)) ?_
    refine x_nil ⟨(fun hh => Bool.noConfusion hh), ?_⟩
    refine cx_e rfl ?_
    refine x_call rfl (by kernel_rfl) (minus_x _ _ hC hD) rfl (by repeat (first | exact Take.nil | exact Take.all | (apply Take.cons; (next => repeat constructor; done)) | apply Take.skip)) ?_
    rintro _ _ ⟨rfl, rfl⟩
    refine xo_app (by repeat (first | exact App.nil | apply App.cons | (apply App.flip; first | exact App.nil | apply App.cons) | exact App.any)) ?_
    refine x_nil ⟨(fun hh => Bool.noConfusion hh), ?_⟩
    refine cx_q rfl (pv_eql_ba (n := 16) (hM _ _) (hM _ _) rfl rfl) ?_
    refine cx_isT 39 rfl (decide_eq_true (by rw [← hoth]; exact shifts_law key other m hk ho)) ?_
    first | refine cx_q rfl (pv_assign_bool rfl) ?_ | refine cx_q rfl (pv_assign rfl) ?_
    refine cx_nil ?_
    repeat (first|refine zA ?_|refine zB ?_|refine zC ?_|refine zD ?_|refine zE ?_|refine zF ?_|refine zG ?_|refine zH ?_|refine zI ?_|refine zJ ?_|refine zK ?_|refine zL ?_|refine zM rfl ?_|refine zN ?_|refine zO ?_|refine zP ?_|refine zQ ?_)
    refine rx1 (rx_bool rfl (rx_nil)) ?_
    exact ⟨_, ⟨rfl, rfl⟩, by exact Imp.arr (by repeat (first | exact Arr.nil | exact Arr.stop | refine Arr.cons (by repeat constructor) ?_ | refine Arr.skip ?_))⟩
end Go.Sl
